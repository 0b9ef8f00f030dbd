/- Merged texts: Rn4, Ld1, Ld2, Ld0, Tx1, Pa1, Pa2, Lib3, Lib7, M4, One, Dr1, U6, M5. -/
import Derived.Test.YtnhngccfbnnpoaaDoorGCardPages2
import Derived.Test.YtnhngccfbnnpoaaDoorGCardPages1
import Derived.Deep.RegionHeld3
/- Numbers read from texts, part 4 (printed by gen_rn4.py): l01Number (reference). -/
namespace Go.Proofs.YtnhngccfbnnpoaaDoor
open Go.RowKit Go.Joins

theorem ne_some {s : ByteArray} (h : 0 < s.size) : s.toList.isEmpty = false := by
  rw [ByteArray.toList_eq, List.isEmpty_eq_false_iff]
  intro e
  have h1 : s.data.toList.length = s.size := by simp
  rw [e] at h1
  simp at h1; omega
theorem ne_none {s : ByteArray} (h : s.size = 0) : s.toList.isEmpty = true := by
  rw [ByteArray.toList_eq, List.isEmpty_iff]
  exact List.eq_nil_of_length_eq_zero (by simpa using h)

set_option maxRecDepth 100000 in
set_option maxHeartbeats 3200000 in
theorem l01Number_any (s : ByteArray) (w : World) (hs : s.size ≤ 1073741824) : Calls Tryd.prog 82 #[.string s] w (RetN1 w s) := by
  have Hnone := Lib.hid (fun h => readN_none (s := s) h)
  have Hbad := Lib.hid (fun k hk h => readN_bad (s := s) k hk h)
  have Hval := Lib.hid (fun h1 h2 => readN_val (s := s) h1 h2)
  have Hbd := Lib.hid (fun h1 h2 => valN_bd (s := s) h1 h2)
  have HD := Lib.hid (fun n wx h0 h1 => l01Dec_any n wx h0 h1)
  have hb0 := Below.refl w.heap.size w
  have HV := Lib.hid (show valN s = if (bodyN s).size < s.size then -(numVN (bodyN s).data.toList : Int) else numVN (bodyN s).data.toList from rfl)
  by_cases hh : s.data.toList.head? = some 45
  · obtain ⟨h0, he⟩ := head_sizeN hh
    have HT := Lib.hid (show bodyN s = s.extract 1 s.size by unfold bodyN; rw [if_pos hh])
    have hb : ((s[0].toNat : Int) == 45) = true := by rw [he]; rfl
    have hz0 := tail_size1 s
    have hpos : (0 : Int) < (s.size : Int) := by omega
    have hne := ne_some h0
    obtain ⟨T, hT⟩ : ∃ T, s.extract 1 s.size = T := ⟨_, rfl⟩
    rw [HT.out, hT] at Hbad Hbd Hval Hnone HV
    rw [hT] at hz0
    have hlt : T.size < s.size := by omega
    rw [if_pos hlt] at HV
    have hlt' : (T.size : Int) < (s.size : Int) := by omega
    clear HT he hh hz0
    by_cases t0 : T.size = 0
    · have hn := Hnone.out (.inl t0)
      have t0' : (T.size : Int) < 1 := by omega
      go_enter Tryd.func82, Tryd.ntmps82
      go_wp2_with fail
      go_ret2
      unfold RetN1; rw [hn]; exact ⟨rfl, hb0⟩
    · have t0' : ¬ (T.size : Int) < 1 := by omega
      by_cases t1 : 18 < T.size
      · have hn := Hnone.out (.inr t1)
        have t1' : (18 : Int) < (T.size : Int) := by omega
        go_enter Tryd.func82, Tryd.ntmps82
        go_wp2_with fail
        go_ret2
        unfold RetN1; rw [hn]; exact ⟨rfl, hb0⟩
      · have t1' : ¬ (18 : Int) < (T.size : Int) := by omega
        have hno : ¬(T.size = 0 ∨ 18 < T.size) := by omega
        have Hval2 := Lib.hid (Hval.out hno)
        have Hbd2 := Lib.hid (Hbd.out hno)
        clear Hval Hbd Hnone
        go_enter Tryd.func82, Tryd.ntmps82
        go_wp2_with fail
        go_loop [5, 6] (fun n i => ∃ k : Nat, k ≤ T.size ∧ i = .int .i64 (k : Int) ∧ n = .int .i64 (numVN (T.data.toList.take k) : Int) ∧ ∀ c ∈ T.data.toList.take k, isDg c = true) (fun _ i => T.size - (intOf i).toNat)
        case atStart => exact ⟨0, Nat.zero_le _, rfl, rfl, by simp⟩
        case round =>
          obtain ⟨k, hk, rfl, rfl, hall⟩ := hrel
          have Hall := Lib.hid hall
          by_cases hlk : k < T.size
          · have hlk' : (k : Int) < (T.size : Int) := by omega
            have HDg := Lib.hid (fun wx => l01DigitN_any (T)[k] wx)
            have HK := Lib.hid (take_at T k hlk)
            have hN : numVN (T.data.toList.take k) < 100000000000000000 := by
              have h := numVN_lt _ hall
              have h3 : (10 : Nat) ^ (T.data.toList.take k).length ≤ 10 ^ 17 := Nat.pow_le_pow_right (by omega) (by rw [List.length_take]; omega)
              have h4 : (10 : Nat) ^ 17 = 100000000000000000 := by decide
              omega
            have Hsn := Lib.hid (fun (h : isDg (T)[k] = true) => (show ∀ c ∈ T.data.toList.take (k + 1), isDg c = true from fun c hc => by
              rw [List.take_succ_eq_append_getElem (by simpa using hlk)] at hc
              rcases List.mem_append.1 hc with h1 | h1
              · exact Hall.out c h1
              · rw [List.mem_singleton.1 h1]; exact h))
            generalize numVN (T.data.toList.take k) = N at *
            clear hall
            cases hdg : isDg (T)[k] with
            | false =>
              have hn := Hbad.out k hlk hdg
              rw [hdg] at HDg
              clear hdg
              go_wp2_with fail
              refine (HDg.out _).mono ?_; rintro e w1 ⟨rfl, rfl⟩
              go_wp2_with fail
              go_ret2
              unfold RetN1; rw [hn]; exact ⟨rfl, hb0⟩
            | true =>
              obtain ⟨hw, h9⟩ := dig_wrap (T)[k] hdg
              have Hs2 := Lib.hid (Hsn.out hdg)
              rw [hdg] at HDg
              clear hdg Hsn
              generalize (T)[k].toNat - 48 = d at *
              go_wp2_with fail
              refine (HDg.out _).mono ?_; rintro e w1 ⟨rfl, rfl⟩
              go_wp2_with fail
              go_round
              case rel => exact ⟨k + 1, by omega, by go_num, by rw [HK.out]; go_num, Hs2.out⟩
              case measure => simp [intOf]; omega
          · have hd : T.data.toList.take k = T.data.toList := List.take_of_length_le (by simp; omega)
            rw [hd] at hall
            rw [hd]
            have hM := Hbd2.out hall
            have HR := Lib.hid (Hval2.out hall)
            generalize numVN T.data.toList = M at *
            rw [HV.out] at HR
            have hlk' : (T.size : Int) ≤ (k : Int) := by omega
            have HDx := Lib.hid (HD.out (-(M : Int)) w (by omega) (by omega))
            have hwn : IntKind.i64.wrap (-(M : Int)) = -(M : Int) := IntWalk.i64_in _ (by omega)
            clear hall hd Hall
            by_cases hq : decS (-(M : Int)) = s
            · have HQ := Lib.hid (show readN s = some (-(M : Int)) by rw [HR.out, if_pos hq])
              rw [hq] at HDx
              clear hq HR
              go_wp2_with fail
              refine HDx.out.mono ?_; rintro e w5 ⟨rfl, hb5⟩
              go_wp2_with fail
              go_ret2
              unfold RetN1; rw [HQ.out]; exact ⟨rfl, hb5⟩
            · have HQ := Lib.hid (show readN s = none by rw [HR.out, if_neg hq])
              have hbn : ((decS (-(M : Int))).toList != s.toList) = true := bne_iff_ne.2 fun e => hq (ba_inj e)
              have hbq : ((decS (-(M : Int))).toList == s.toList) = false := beq_eq_false_iff_ne.2 fun e => hq (ba_inj e)
              generalize decS (-(M : Int)) = Y at *
              clear hq HR
              go_wp2_with fail
              refine HDx.out.mono ?_; rintro e w5 ⟨rfl, hb5⟩
              go_wp2_with fail
              go_ret2
              unfold RetN1; rw [HQ.out]; exact ⟨rfl, hb5⟩
  · have HT := Lib.hid (show bodyN s = s by unfold bodyN; rw [if_neg hh])
    rw [HT.out] at Hbad Hbd Hval Hnone HV
    rw [if_neg (Nat.lt_irrefl _)] at HV
    clear HT
    by_cases t0 : s.size = 0
    · have hn := Hnone.out (.inl t0)
      have t0' : (s.size : Int) < 1 := by omega
      have hne := ne_none t0
      go_enter Tryd.func82, Tryd.ntmps82
      go_wp2_with fail
      go_ret2
      unfold RetN1; rw [hn]; exact ⟨rfl, hb0⟩
    · have t0' : ¬ (s.size : Int) < 1 := by omega
      have h0 : 0 < s.size := by omega
      have hpos : (0 : Int) < (s.size : Int) := by omega
      have hne := ne_some h0
      have hb : ((s[0].toNat : Int) == 45) = false := by
        rw [beq_eq_false_iff_ne]; intro h
        exact head_not hh h0 (UInt8.toNat_inj.1 (by have : (45 : UInt8).toNat = 45 := rfl
                                                    omega))
      by_cases t1 : 18 < s.size
      · have hn := Hnone.out (.inr t1)
        have t1' : (18 : Int) < (s.size : Int) := by omega
        go_enter Tryd.func82, Tryd.ntmps82
        go_wp2_with fail
        go_ret2
        unfold RetN1; rw [hn]; exact ⟨rfl, hb0⟩
      · have t1' : ¬ (18 : Int) < (s.size : Int) := by omega
        have hno : ¬(s.size = 0 ∨ 18 < s.size) := by omega
        have Hval2 := Lib.hid (Hval.out hno)
        have Hbd2 := Lib.hid (Hbd.out hno)
        clear Hval Hbd Hnone
        go_enter Tryd.func82, Tryd.ntmps82
        go_wp2_with fail
        go_loop [5, 6] (fun n i => ∃ k : Nat, k ≤ s.size ∧ i = .int .i64 (k : Int) ∧ n = .int .i64 (numVN (s.data.toList.take k) : Int) ∧ ∀ c ∈ s.data.toList.take k, isDg c = true) (fun _ i => s.size - (intOf i).toNat)
        case atStart => exact ⟨0, Nat.zero_le _, rfl, rfl, by simp⟩
        case round =>
          obtain ⟨k, hk, rfl, rfl, hall⟩ := hrel
          have Hall := Lib.hid hall
          by_cases hlk : k < s.size
          · have hlk' : (k : Int) < (s.size : Int) := by omega
            have HDg := Lib.hid (fun wx => l01DigitN_any (s)[k] wx)
            have HK := Lib.hid (take_at s k hlk)
            have hN : numVN (s.data.toList.take k) < 100000000000000000 := by
              have h := numVN_lt _ hall
              have h3 : (10 : Nat) ^ (s.data.toList.take k).length ≤ 10 ^ 17 := Nat.pow_le_pow_right (by omega) (by rw [List.length_take]; omega)
              have h4 : (10 : Nat) ^ 17 = 100000000000000000 := by decide
              omega
            have Hsn := Lib.hid (fun (h : isDg (s)[k] = true) => (show ∀ c ∈ s.data.toList.take (k + 1), isDg c = true from fun c hc => by
              rw [List.take_succ_eq_append_getElem (by simpa using hlk)] at hc
              rcases List.mem_append.1 hc with h1 | h1
              · exact Hall.out c h1
              · rw [List.mem_singleton.1 h1]; exact h))
            generalize numVN (s.data.toList.take k) = N at *
            clear hall
            cases hdg : isDg (s)[k] with
            | false =>
              have hn := Hbad.out k hlk hdg
              rw [hdg] at HDg
              clear hdg
              go_wp2_with fail
              refine (HDg.out _).mono ?_; rintro e w1 ⟨rfl, rfl⟩
              go_wp2_with fail
              go_ret2
              unfold RetN1; rw [hn]; exact ⟨rfl, hb0⟩
            | true =>
              obtain ⟨hw, h9⟩ := dig_wrap (s)[k] hdg
              have Hs2 := Lib.hid (Hsn.out hdg)
              rw [hdg] at HDg
              clear hdg Hsn
              generalize (s)[k].toNat - 48 = d at *
              go_wp2_with fail
              refine (HDg.out _).mono ?_; rintro e w1 ⟨rfl, rfl⟩
              go_wp2_with fail
              go_round
              case rel => exact ⟨k + 1, by omega, by go_num, by rw [HK.out]; go_num, Hs2.out⟩
              case measure => simp [intOf]; omega
          · have hd : s.data.toList.take k = s.data.toList := List.take_of_length_le (by simp; omega)
            rw [hd] at hall
            rw [hd]
            have hM := Hbd2.out hall
            have HR := Lib.hid (Hval2.out hall)
            generalize numVN s.data.toList = M at *
            rw [HV.out] at HR
            have hlk' : (s.size : Int) ≤ (k : Int) := by omega
            have HDx := Lib.hid (HD.out ((M : Int)) w (by omega) (by omega))
            have hwn : IntKind.i64.wrap ((M : Int)) = (M : Int) := IntWalk.i64_in _ (by omega)
            clear hall hd Hall
            by_cases hq : decS ((M : Int)) = s
            · have HQ := Lib.hid (show readN s = some ((M : Int)) by rw [HR.out, if_pos hq])
              rw [hq] at HDx
              clear hq HR
              go_wp2_with fail
              refine HDx.out.mono ?_; rintro e w5 ⟨rfl, hb5⟩
              go_wp2_with fail
              go_ret2
              unfold RetN1; rw [HQ.out]; exact ⟨rfl, hb5⟩
            · have HQ := Lib.hid (show readN s = none by rw [HR.out, if_neg hq])
              have hbn : ((decS ((M : Int))).toList != s.toList) = true := bne_iff_ne.2 fun e => hq (ba_inj e)
              have hbq : ((decS ((M : Int))).toList == s.toList) = false := beq_eq_false_iff_ne.2 fun e => hq (ba_inj e)
              generalize decS ((M : Int)) = Y at *
              clear hq HR
              go_wp2_with fail
              refine HDx.out.mono ?_; rintro e w5 ⟨rfl, hb5⟩
              go_wp2_with fail
              go_ret2
              unfold RetN1; rw [HQ.out]; exact ⟨rfl, hb5⟩
end Go.Proofs.YtnhngccfbnnpoaaDoor
/- Texts, read: cut at two bytes; the lines of a text (textLines). -/
namespace Go.Proofs.YtnhngccfbnnpoaaDoor
open Go.RowKit Go.Joins

def hit2 (c : UInt8) (s : ByteArray) (i : Nat) : Bool := (s.data[i]? == some c) && (s.data[i + 1]? == some c)
/-- the first place of two bytes c; the text's size if there is none -/
def fnd2 (c : UInt8) (s : ByteArray) : Nat := (List.range s.size).findIdx (hit2 c s)
theorem fnd2_le (c : UInt8) (s : ByteArray) : fnd2 c s ≤ s.size := by
  have : fnd2 c s ≤ (List.range s.size).length := List.findIdx_le_length
  simpa using this
theorem hit2_iff (c : UInt8) (s : ByteArray) (i : Nat) : hit2 c s i = true ↔ ∃ h : i + 1 < s.size, s[i] = c ∧ s[i + 1] = c := by
  unfold hit2
  simp only [Bool.and_eq_true, beq_iff_eq]
  constructor
  · rintro ⟨h1, h2⟩
    obtain ⟨q1, e1⟩ := Array.getElem?_eq_some_iff.1 h1
    obtain ⟨q2, e2⟩ := Array.getElem?_eq_some_iff.1 h2
    exact ⟨q2, e1, e2⟩
  · rintro ⟨h, e1, e2⟩
    exact ⟨Array.getElem?_eq_some_iff.2 ⟨Nat.lt_of_succ_lt h, e1⟩, Array.getElem?_eq_some_iff.2 ⟨h, e2⟩⟩
theorem fnd2_hit {c : UInt8} {s : ByteArray} (h : fnd2 c s < s.size) : hit2 c s (fnd2 c s) = true := by
  have := List.findIdx_getElem (p := hit2 c s) (xs := List.range s.size) (w := by show fnd2 c s < _; simpa using h)
  simpa [fnd2] using this
theorem fnd2_no {c : UInt8} {s : ByteArray} {i : Nat} (h : i < fnd2 c s) : hit2 c s i = false := by
  have h0 := fnd2_le c s
  have := List.not_of_lt_findIdx (p := hit2 c s) (xs := List.range s.size) (i := i) h
  simpa using this
theorem fnd2_eq {c : UInt8} {s : ByteArray} {k : Nat} (hk : k ≤ fnd2 c s) (h : hit2 c s k = true) : fnd2 c s = k := by
  refine Nat.le_antisymm (Nat.le_of_not_lt fun hl => ?_) hk
  rw [fnd2_no hl] at h; cases h
theorem fnd2_ne {c : UInt8} {s : ByteArray} {k : Nat} (hk : k ≤ fnd2 c s) (hlt : k < s.size) (h : hit2 c s k = false) : k + 1 ≤ fnd2 c s := by
  rcases Nat.lt_or_ge k (fnd2 c s) with hl | hg
  · exact hl
  · exfalso
    have he : fnd2 c s = k := Nat.le_antisymm hg hk
    have := fnd2_hit (c := c) (s := s) (by omega)
    rw [he, h] at this; cases this
theorem fnd2_end {c : UInt8} {s : ByteArray} {k : Nat} (hk : k ≤ fnd2 c s) (h : s.size < k + 2) : fnd2 c s = s.size := by
  have h0 := fnd2_le c s
  rcases Nat.lt_or_ge (fnd2 c s) s.size with hl | hg
  · obtain ⟨q, _⟩ := (hit2_iff _ _ _).1 (fnd2_hit hl)
    omega
  · omega
theorem two_bytes (s : ByteArray) (k : Nat) (hlt : k + 1 < s.size) : s.extract k (k + 2) = ⟨#[s[k], s[k + 1]]⟩ := by
  have h1 := one_byte s k (by omega)
  have h2 := one_byte s (k + 1) hlt
  have : s.extract k (k + 2) = s.extract k (k + 1) ++ s.extract (k + 1) (k + 2) := by
    apply ByteArray.ext
    simp only [ByteArray.data_append, ByteArray.data_extract]
    rw [Array.extract_append_extract, show min k (k + 1) = k by omega, show max (k + 1) (k + 2) = k + 2 by omega]
  rw [this, h1, h2]; rfl
def RetC2 (w : World) (c : UInt8) (s : ByteArray) (e : Ending) (w' : World) : Prop :=
  (if fnd2 c s < s.size then e = .returned (.tuple #[.string (s.extract 0 (fnd2 c s)), .string (s.extract (fnd2 c s + 2) s.size), .bool true]) else e = .returned (.tuple #[.string s, .string ⟨#[]⟩, .bool false])) ∧ ∃ n, w' = w.drewN n
theorem RetC2.yes {w w' : World} {c : UInt8} {s : ByteArray} {k : Nat} (h : fnd2 c s = k) (hk : k < s.size) (hw : ∃ n, w' = w.drewN n) : RetC2 w c s (.returned (.tuple #[.string (s.extract 0 k), .string (s.extract (k + 2) s.size), .bool true])) w' := by
  subst h; exact ⟨by rw [if_pos hk], hw⟩
theorem RetC2.no {w w' : World} {c : UInt8} {s : ByteArray} (h : fnd2 c s = s.size) (hw : ∃ n, w' = w.drewN n) : RetC2 w c s (.returned (.tuple #[.string s, .string ⟨#[]⟩, .bool false])) w' :=
  ⟨by rw [if_neg (by omega)], hw⟩

set_option maxRecDepth 100000 in
set_option maxHeartbeats 1000000 in
theorem cut2_any (s : ByteArray) (c : UInt8) (w : World) (hs : s.size ≤ 1073741824) : Calls Tryd.prog 86 #[.string s, .string ⟨#[c, c]⟩] w (RetC2 w c s) := by
  have h1 : (⟨#[c, c]⟩ : ByteArray).size = 2 := rfl
  go_enter Tryd.func86, Tryd.ntmps86
  go_wp2_with fail
  go_loop [7] (fun i => ∃ k : Nat, k ≤ fnd2 c s ∧ i = .int .i64 k) (fun i => s.size - (intOf i).toNat)
  case atStart => exact ⟨0, Nat.zero_le _, rfl⟩
  case round =>
    obtain ⟨k, hk, rfl⟩ := hrel
    have hfl := fnd2_le c s
    by_cases hlt : k + 1 < s.size
    · have hsl := two_bytes s k hlt
      have hle : (k : Int) + 2 ≤ (s.size : Int) := by omega
      cases he : hit2 c s k with
      | true =>
        have hf := Lib.hid (fnd2_eq hk he)
        obtain ⟨_, e1, e2⟩ := (hit2_iff _ _ _).1 he
        rw [e1, e2] at hsl
        clear he e1 e2
        go_wp2_with fail
        go_quiet (fail)
        go_wp2_with fail
        go_ret3
        exact RetC2.yes hf.out (by omega) ⟨_, rfl⟩
      | false =>
        have hf := Lib.hid (fnd2_ne hk (by omega) he)
        have hb : ((⟨#[s[k], s[k + 1]]⟩ : ByteArray).toList == [c, c]) = false := by
          rw [beq_eq_false_iff_ne]
          intro h
          rw [ByteArray.toList_eq] at h
          simp only [List.cons.injEq, and_true] at h
          rw [(hit2_iff c s k).2 ⟨hlt, h.1, h.2⟩] at he
          cases he
        generalize (⟨#[s[k], s[k + 1]]⟩ : ByteArray) = o at *
        clear he
        go_wp2_with fail
        go_round
        case rel => exact ⟨k + 1, hf.out, by go_num⟩
        case measure => simp [intOf]; omega
    · have hf := Lib.hid (fnd2_end hk (by omega))
      have hle : ¬ (k : Int) + 2 ≤ (s.size : Int) := by omega
      go_wp2_with fail
      go_ret3
      exact RetC2.no hf.out ⟨0, rfl⟩

theorem linesB_nil (c : UInt8) (s : ByteArray) (h : s.size = 0) : linesB c s = some [] := by
  have hs : s = ⟨#[]⟩ := by
    obtain ⟨⟨l⟩⟩ := s
    have : l = [] := List.eq_nil_of_length_eq_zero h
    rw [this]
  have := fnd_le c s
  unfold linesB
  rw [splitB_no (by omega), hs]
  rfl
theorem linesB_yes {c : UInt8} {s : ByteArray} (h : fnd c s < s.size) : linesB c s = (linesB c (s.extract (fnd c s + 1) s.size)).map (s.extract 0 (fnd c s) :: ·) := by
  have hne := splitB_ne c (s.extract (fnd c s + 1) s.size)
  unfold linesB
  rw [splitB_yes h]
  generalize splitB c (s.extract (fnd c s + 1) s.size) = L at *
  obtain ⟨x, l, rfl⟩ := List.exists_cons_of_ne_nil hne
  rw [List.dropLast_cons_of_ne_nil (by simp), List.getLast?_cons_cons]
  split <;> rfl
theorem linesB_no {c : UInt8} {s : ByteArray} (h : s.size ≤ fnd c s) (h0 : s.size ≠ 0) : linesB c s = none := by
  unfold linesB
  rw [splitB_no h, if_neg]
  intro e
  have h1 : s = ⟨#[]⟩ := Option.some.inj e
  rw [h1] at h0
  exact h0 rfl
end Go.Proofs.YtnhngccfbnnpoaaDoor
/- Texts, read, part 2: textLines (program). -/
namespace Go.Proofs.YtnhngccfbnnpoaaDoor
open Go.RowKit Go.Joins

theorem linesB_le {c : UInt8} {s : ByteArray} {l : List ByteArray} (h : linesB c s = some l) : l.length ≤ s.size := by
  have := splitB_len c s.size s (Nat.le_refl _)
  unfold linesB at h
  split at h
  · rw [← Option.some.inj h, List.length_dropLast]; omega
  · cases h
theorem splitB_mem (c : UInt8) : ∀ (n : Nat) (s : ByteArray), s.size ≤ n → ∀ z ∈ splitB c s, z.size ≤ s.size := by
  intro n
  induction n with
  | zero =>
    intro s h z hz
    have := fnd_le c s
    rw [splitB_no (by omega)] at hz
    rw [List.mem_singleton.1 hz]; exact Nat.le_refl _
  | succ n ih =>
    intro s h z hz
    rcases Nat.lt_or_ge (fnd c s) s.size with h1 | h1
    · rw [splitB_yes h1] at hz
      rcases List.mem_cons.1 hz with rfl | hz
      · rw [ByteArray.size_extract]; omega
      · have hs := tail_sizeS s (fnd c s + 1)
        have := ih _ (by omega) z hz
        omega
    · rw [splitB_no h1] at hz
      rw [List.mem_singleton.1 hz]; exact Nat.le_refl _
theorem linesB_mem {c : UInt8} {s : ByteArray} {l : List ByteArray} (h : linesB c s = some l) : ∀ z ∈ l, z.size ≤ s.size := by
  unfold linesB at h
  split at h
  · intro z hz
    rw [← Option.some.inj h] at hz
    exact splitB_mem c s.size s (Nat.le_refl _) z ((List.dropLast_subset _) hz)
  · cases h
def RetTl (w : World) (r : Option (List ByteArray)) (e : Ending) (w' : World) : Prop :=
  ∃ v, e = .returned (.tuple #[v, .bool r.isSome]) ∧ (∀ l, r = some l → w'.ownsRow w.heap.size 9 1 v l.length (l.map Value.string)) ∧ Below w.heap.size w w'
theorem RetTl.none {w w' : World} {r : Option (List ByteArray)} {v : Value} (h : r = none) (hb : Below w.heap.size w w') : RetTl w r (.returned (.tuple #[v, .bool false])) w' := by
  subst h; exact ⟨v, rfl, (fun l h => by cases h), hb⟩
theorem RetTl.some {w w' : World} {r : Option (List ByteArray)} {v : Value} {l : List ByteArray} (h : r = some l) (ho : w'.ownsRow w.heap.size 9 1 v l.length (l.map Value.string)) (hb : Below w.heap.size w w') : RetTl w r (.returned (.tuple #[v, .bool true])) w' := by
  subst h; exact ⟨v, rfl, (fun l' h' => by rw [← Option.some.inj h']; exact ho), hb⟩

end Go.Proofs.YtnhngccfbnnpoaaDoor
/- Texts, read: plain laws and rows of texts of the call's own (moved out of Ld4 .. Ld7). -/
namespace Go.Proofs.YtnhngccfbnnpoaaDoor
open Go.RowKit Go.Joins

theorem cut_back (s : ByteArray) (k : Nat) (hk : k < s.size) : s.extract 0 k ++ ⟨#[s[k]]⟩ ++ s.extract (k + 1) s.size = s := by
  have h1 := one_byte s k hk
  rw [← h1]
  apply ByteArray.ext
  simp only [ByteArray.data_append, ByteArray.data_extract]
  rw [Array.extract_append_extract, show min 0 k = 0 by omega, show max k (k + 1) = k + 1 by omega, Array.extract_append_extract, show min 0 (k + 1) = 0 by omega, show max (k + 1) s.size = s.size by omega]
  exact Array.extract_size
theorem splitB_one {c : UInt8} {s x : ByteArray} (h : splitB c s = [x]) : s = x := by
  rcases Nat.lt_or_ge (fnd c s) s.size with h1 | h1
  · rw [splitB_yes h1] at h
    injection h with _ h2
    exact absurd h2 (splitB_ne _ _)
  · rw [splitB_no h1] at h
    injection h
theorem splitB_cons {c : UInt8} {s x y : ByteArray} {l : List ByteArray} (h : splitB c s = x :: y :: l) : ∃ r, s = x ++ ⟨#[c]⟩ ++ r ∧ splitB c r = y :: l := by
  rcases Nat.lt_or_ge (fnd c s) s.size with h1 | h1
  · rw [splitB_yes h1] at h
    injection h with h2 h3
    refine ⟨_, ?_, h3⟩
    rw [← h2]
    have := cut_back s (fnd c s) h1
    rw [fnd_at c s h1] at this
    exact this.symm
  · rw [splitB_no h1] at h
    injection h with _ h2
    cases h2
/-- the text of lines -/
def textB (c : UInt8) (l : List ByteArray) : ByteArray := ⟨(l.flatMap fun x => x.data.toList ++ [c]).toArray⟩
theorem textB_cons (c : UInt8) (x : ByteArray) (l : List ByteArray) : textB c (x :: l) = x ++ ⟨#[c]⟩ ++ textB c l := by
  unfold textB
  refine ba_inj ?_
  rw [ByteArray.toList_eq, ByteArray.toList_eq]
  simp
theorem linesB_text (c : UInt8) : ∀ (n : Nat) (s : ByteArray), s.size ≤ n → ∀ l, linesB c s = some l → textB c l = s := by
  intro n
  induction n with
  | zero =>
    intro s h l hl
    rw [linesB_nil c s (by omega)] at hl
    rw [← Option.some.inj hl]
    obtain ⟨⟨d⟩⟩ := s
    have : d = [] := List.eq_nil_of_length_eq_zero (Nat.le_zero.1 h)
    subst this; rfl
  | succ n ih =>
    intro s h l hl
    rcases Nat.lt_or_ge (fnd c s) s.size with h1 | h1
    · rw [linesB_yes h1] at hl
      have hz := tail_sizeS s (fnd c s + 1)
      cases hq : linesB c (s.extract (fnd c s + 1) s.size) with
      | none => rw [hq] at hl; cases hl
      | some m =>
        rw [hq] at hl
        rw [← Option.some.inj hl, textB_cons, ih _ (by omega) m hq]
        have := cut_back s (fnd c s) h1
        rw [fnd_at c s h1] at this
        exact this
    · by_cases h0 : s.size = 0
      · exact ih s (by omega) l hl
      · rw [linesB_no h1 h0] at hl; cases hl
theorem sl_of_own {w : World} {base n size : Nat} {e : TypeId} {v : Value} {cs : List Value} (h : w.ownsRow base e size v n cs) : ∃ A c, v = .slice A n c := by
  obtain ⟨_, A, c, hv, _⟩ := Rd.of_own h
  exact ⟨A, c, hv⟩
/-- a row of texts of the call's own -/
theorem own_strs {w : World} {base : Nat} {v : Value} {L : List ByteArray} (h : w.ownsRow base 9 1 v L.length (L.map Value.string)) (hn : 0 < L.length) :
    ∃ g c, v = .slice (some ⟨g, 0, none⟩) L.length c ∧ L.length ≤ c ∧ c ≤ maxLen ∧ g < w.heap.size ∧ ∀ i (hi : i < L.length), w.cell? ⟨g, i, none⟩ = some (.string L[i]) := by
  rcases h.2 with ⟨_, h0⟩ | ⟨g, cap, _, hv, _, _, h1, h2, _⟩
  · omega
  · have hlt := (h.lt g (by rw [hv]; rfl)).2
    subst hv
    refine ⟨g, cap, rfl, h1, h2, hlt, fun i hi => ?_⟩
    have hc := h.cells (g := g) rfl i (.string L[i]) (by rw [List.getElem?_map, List.getElem?_eq_getElem hi]; rfl)
    have e0 : (⟨g, 0, none⟩ : Addr).add i = ⟨g, i, none⟩ := by unfold Addr.add; split <;> simp_all
    rwa [e0] at hc
theorem lines_last {s : ByteArray} : ∃ x, (splitB 10 s).getLast? = some x ∧ ((x.size ≠ 0 ∧ linesB 10 s = none) ∨ (x.size = 0 ∧ linesB 10 s = some (splitB 10 s).dropLast)) := by
  have hne := splitB_ne 10 s
  unfold linesB
  generalize splitB 10 s = L at *
  refine ⟨L.getLast hne, List.getLast?_eq_some_getLast hne, ?_⟩
  rw [List.getLast?_eq_some_getLast hne]
  generalize L.getLast hne = x
  by_cases h : x.size = 0
  · refine .inr ⟨h, ?_⟩
    have : x = ⟨#[]⟩ := by
      obtain ⟨⟨l⟩⟩ := x
      have : l = [] := List.eq_nil_of_length_eq_zero h
      rw [this]
    rw [this, if_pos rfl]
  · refine .inl ⟨h, ?_⟩
    rw [if_neg]
    intro e
    have := Option.some.inj e
    rw [this] at h
    exact h rfl
theorem drop_get {L : List ByteArray} {k : Nat} (h : k < L.dropLast.length) : L.dropLast[k] = L[k]'(by rw [List.length_dropLast] at h; omega) := by
  rw [List.getElem_dropLast]
theorem own_cap {w : World} {base n size m c : Nat} {e : TypeId} {A : Option Addr} {cs : List Value} (h : w.ownsRow base e size (.slice A m c) n cs) : m ≤ c ∧ c ≤ maxLen := by
  rcases h.2 with ⟨h0, _⟩ | ⟨g, cap, _, hv, _, _, h1, h2, _⟩
  · injection h0 with _ h1 h2
    subst h1 h2
    exact ⟨Nat.le_refl _, Nat.zero_le _⟩
  · injection hv with _ h3 h4
    subst h3 h4
    exact ⟨h1, h2⟩
/-- a row of texts of the call's own, empty perhaps -/
theorem own_strs0 {w : World} {base : Nat} {v : Value} {L : List ByteArray} (h : w.ownsRow base 9 1 v L.length (L.map Value.string)) :
    ∃ A c g, v = .slice A L.length c ∧ (0 < L.length → A = some ⟨g, 0, none⟩ ∧ g < w.heap.size) ∧ ∀ i (hi : i < L.length), w.cell? ⟨g, i, none⟩ = some (.string L[i]) := by
  by_cases h0 : 0 < L.length
  · obtain ⟨g, c, hv, _, _, hlt, hc⟩ := own_strs h h0
    exact ⟨_, c, g, hv, (fun _ => ⟨rfl, hlt⟩), hc⟩
  · obtain ⟨A, c, hv⟩ := sl_of_own h
    exact ⟨A, c, 0, hv, (fun h => absurd h h0), fun i hi => absurd hi (by omega)⟩
theorem splitB_one' {c : UInt8} {s x : ByteArray} (h : splitB c s = [x]) : s = x := by
  rcases Nat.lt_or_ge (fnd c s) s.size with h1 | h1
  · rw [splitB_yes h1] at h
    injection h with _ h2
    exact absurd h2 (splitB_ne _ _)
  · rw [splitB_no h1] at h
    injection h
end Go.Proofs.YtnhngccfbnnpoaaDoor
/- Texts that do not hold a byte; a text is cut at the byte where two were joined. -/
namespace Go.Proofs.YtnhngccfbnnpoaaDoor

/-- the text does not hold the byte -/
def hasNo (c : UInt8) (x : ByteArray) : Prop := ∀ b ∈ x.data.toList, b ≠ c
theorem hasNo_app {c : UInt8} {x y : ByteArray} (h : hasNo c x) (k : hasNo c y) : hasNo c (x ++ y) := fun b hb => by
  have h2 : (x ++ y).data.toList = x.data.toList ++ y.data.toList := by simp
  rw [h2] at hb
  rcases List.mem_append.1 hb with hb | hb
  · exact h b hb
  · exact k b hb
theorem fnd_hasNo {c : UInt8} {x : ByteArray} (h : hasNo c x) : fnd c x = x.size := by
  unfold fnd
  rw [List.findIdx_eq_length_of_false (fun b hb => by simpa using h b hb)]
  simp
theorem fnd_cut {c : UInt8} {x y : ByteArray} (h : hasNo c x) : fnd c (x ++ ⟨#[c]⟩ ++ y) = x.size := by
  have h := fnd_hasNo h
  unfold fnd at *
  have h2 : (x ++ ⟨#[c]⟩ ++ y).data.toList = x.data.toList ++ (c :: y.data.toList) := by simp
  have h3 : x.data.toList.length = x.size := by simp
  rw [h2, List.findIdx_append]
  have hn : ¬ List.findIdx (fun z => z == c) x.data.toList < x.data.toList.length := by rw [h, h3]; omega
  rw [if_neg hn, List.findIdx_cons]
  simp
theorem cut_parts {c : UInt8} {x y : ByteArray} (h : hasNo c x) : fnd c (x ++ ⟨#[c]⟩ ++ y) < (x ++ ⟨#[c]⟩ ++ y).size ∧ (x ++ ⟨#[c]⟩ ++ y).extract 0 (fnd c (x ++ ⟨#[c]⟩ ++ y)) = x ∧ (x ++ ⟨#[c]⟩ ++ y).extract (fnd c (x ++ ⟨#[c]⟩ ++ y) + 1) (x ++ ⟨#[c]⟩ ++ y).size = y := by
  rw [fnd_cut h]
  have h1 : (⟨#[c]⟩ : ByteArray).size = 1 := rfl
  refine ⟨by rw [ByteArray.size_append, ByteArray.size_append, h1]; omega, ?_, ?_⟩
  · rw [ByteArray.append_assoc]
    exact ByteArray.extract_append_eq_left rfl
  · exact ByteArray.extract_append_eq_right (by rw [ByteArray.size_append]; rfl) (by rw [ByteArray.size_append])
theorem splitB_cut {c : UInt8} {x y : ByteArray} (h : hasNo c x) : splitB c (x ++ ⟨#[c]⟩ ++ y) = x :: splitB c y := by
  obtain ⟨h1, h2, h3⟩ := cut_parts (y := y) h
  rw [splitB_yes h1, h2, h3]
theorem splitB_last {c : UInt8} {x : ByteArray} (h : hasNo c x) : splitB c x = [x] := splitB_no (by rw [fnd_hasNo h]; exact Nat.le_refl _)
theorem dec_no {a : Int} (h : 0 ≤ a) {c : UInt8} (hc : isDg c = false) : hasNo c (decS a) := by
  obtain ⟨u, rfl⟩ : ∃ u : Nat, a = (u : Int) := ⟨a.toNat, by omega⟩
  have hs : decS (u : Int) = ⟨(Lib.decDigits u).toArray⟩ := by
    unfold decS Lib.itoa
    rw [if_neg (by omega)]; rfl
  intro b hb e
  rw [hs] at hb
  have := ((dec_facts u).1 b (by simpa using hb)).1
  rw [e, hc] at this; cases this
theorem dec_noz (a : Int) {c : UInt8} (hc : isDg c = false) (h45 : c ≠ 45) : hasNo c (decS a) := by
  by_cases h : 0 ≤ a
  · exact dec_no h hc
  · obtain ⟨n, rfl⟩ : ∃ n : Nat, a = -(n : Int) := ⟨(-a).toNat, by omega⟩
    rw [decS_neg n (by omega)]
    refine hasNo_app ?_ ?_
    · intro b hb e
      have : b = 45 := by simpa using hb
      exact h45 (e.symm.trans this)
    · intro b hb e
      have := ((dec_facts n).1 b (by simpa using hb)).1
      rw [e, hc] at this; cases this
end Go.Proofs.YtnhngccfbnnpoaaDoor
/- Printed pages, part 1: the plain law of lines. -/
namespace Go.Proofs.YtnhngccfbnnpoaaDoor
open Go.RowKit Go.Joins

theorem nm_noA {x : ByteArray} (h : isNm x.data.toList = true) {c : UInt8} (hc : okC c.toNat = false) : hasNo c x := by
  intro b hb e
  unfold isNm at h
  split at h
  · cases h
  · rename_i c0 t hx
    simp only [Bool.and_eq_true, List.all_eq_true] at h
    have := h.2 b (by rw [← hx]; exact hb)
    rw [e, hc] at this; cases this
theorem lit_noA {c : UInt8} {l : Array UInt8} (h : l.toList.all (fun b => b != c) = true) : hasNo c ⟨l⟩ := fun b hb => by
  simpa using List.all_eq_true.1 h b hb
theorem getA_left {α : Type} (l m : List α) (k : Nat) (d : α) (h : k < l.length) : (l ++ m).getD k d = l.getD k d := by
  rw [List.getD_eq_getElem?_getD, List.getD_eq_getElem?_getD, List.getElem?_append_left h]
theorem getA_last {α : Type} (l : List α) (x d : α) : (l ++ [x]).getD l.length d = x := by
  rw [List.getD_eq_getElem?_getD, List.getElem?_append_right (Nat.le_refl _), Nat.sub_self]; rfl
/-! check digits -/
def wsum : Nat → Nat → Nat → Nat
  | 0, _, _ => 0
  | n + 1, x, k => if x = 0 then 0 else k * (x % 10) + wsum n (x / 10) (k + 1)
theorem wsum_zero (n k : Nat) : wsum n 0 k = 0 := by
  cases n with
  | zero => rfl
  | succ n => unfold wsum; rw [if_pos rfl]
theorem wsum_more : ∀ (n m x k : Nat), x ≤ n → x ≤ m → wsum n x k = wsum m x k := by
  intro n
  induction n with
  | zero => intro m x k h1 _; rw [Nat.le_zero.1 h1, wsum_zero, wsum_zero]
  | succ n ih =>
    intro m x k h1 h2
    by_cases h0 : x = 0
    · rw [h0, wsum_zero, wsum_zero]
    · obtain ⟨m, rfl⟩ : ∃ m', m = m' + 1 := ⟨m - 1, by omega⟩
      unfold wsum
      rw [if_neg h0, if_neg h0, ih m (x / 10) (k + 1) (by omega) (by omega)]
def wsm (x k : Nat) : Nat := wsum x x k
theorem wsm_zero (k : Nat) : wsm 0 k = 0 := rfl
theorem wsm_step {x k : Nat} (h : 0 < x) : wsm x k = k * (x % 10) + wsm (x / 10) (k + 1) := by
  unfold wsm
  obtain ⟨y, rfl⟩ : ∃ y, x = y + 1 := ⟨x - 1, by omega⟩
  show (if y + 1 = 0 then 0 else k * ((y + 1) % 10) + wsum y ((y + 1) / 10) (k + 1)) = _
  rw [if_neg (by omega), wsum_more y ((y + 1) / 10) ((y + 1) / 10) (k + 1) (by omega) (Nat.le_refl _)]
/-- the weights add up to little -/
theorem wsm_bd : ∀ (d x k : Nat), x < 10 ^ d → wsm x k ≤ 9 * d * (k + d)
  | 0, x, k, h => by
    have : x = 0 := by simpa using h
    subst this
    exact Nat.zero_le _
  | d + 1, x, k, h => by
    by_cases h0 : x = 0
    · subst h0; exact Nat.zero_le _
    · rw [wsm_step (by omega)]
      have h1 := wsm_bd d (x / 10) (k + 1) (by rw [Nat.pow_succ] at h; omega)
      have h2 : x % 10 ≤ 9 := by omega
      have h3 : k * (x % 10) ≤ k * 9 := Nat.mul_le_mul_left _ h2
      have h4 : 9 * (d + 1) * (k + (d + 1)) = 9 * d * (k + 1 + d) + 9 * (k + (d + 1)) := by
        rw [show k + 1 + d = k + (d + 1) by omega, ← Nat.add_mul]; congr 1
      omega
def ck (x : Int) : Int := ((((if x < 0 then 5 else 0) + wsm x.natAbs 1) % 11 : Nat) : Int)
theorem ck_bd (x : Int) : 0 ≤ ck x ∧ ck x ≤ 10 := by
  unfold ck
  omega
def cht (x : Int) : ByteArray := if ck x < 10 then decS (ck x) else ⟨#[120]⟩
theorem cht_size (x : Int) : (cht x).size ≤ 20 := by
  have := ck_bd x
  unfold cht
  split
  · exact decS_size _ (by omega) (by omega)
  · show 1 ≤ 20; omega
/-! lines of a page -/
def argA (a b : Int) (i : Nat) : Int := a + (i : Int) * b
def rowB (arg v : Int) : ByteArray := decS arg ++ ⟨#[32]⟩ ++ decS v ++ ⟨#[32]⟩ ++ cht v
def headB (s : ByteArray) (a b : Int) (n : Nat) : ByteArray := s ++ ⟨#[32]⟩ ++ decS a ++ ⟨#[32]⟩ ++ decS b ++ ⟨#[32]⟩ ++ decS (n : Int)
def ftS (f : Nat → Int) : Nat → Int
  | 0 => 0
  | k + 1 => ftS f k + ((k : Int) + 1) * ck (f k)
theorem ftS_bd (f : Nat → Int) : ∀ k : Nat, k ≤ 60 → 0 ≤ ftS f k ∧ ftS f k ≤ 600 * (k : Int)
  | 0, _ => by unfold ftS; omega
  | k + 1, h => by
    have h1 := ftS_bd f k (by omega)
    obtain ⟨h2, h3⟩ := ck_bd (f k)
    obtain ⟨c, hc⟩ : ∃ c : Nat, ck (f k) = (c : Int) := ⟨(ck (f k)).toNat, by omega⟩
    have h4 : (k + 1) * c ≤ 60 * 10 := Nat.mul_le_mul (by omega) (by omega)
    show 0 ≤ ftS f k + ((k : Int) + 1) * ck (f k) ∧ _
    rw [hc]
    have h5 : ((k : Int) + 1) * (c : Int) = (((k + 1) * c : Nat) : Int) := by simp
    show 0 ≤ ftS f k + ((k : Int) + 1) * (c : Int) ∧ ftS f (k + 1) ≤ _
    have h6 : ftS f (k + 1) = ftS f k + ((k : Int) + 1) * (c : Int) := by rw [← hc]; rfl
    rw [h6, h5]
    omega
def footB (f : Nat → Int) (n : Nat) : ByteArray := ⟨#[115, 117, 109, 32]⟩ ++ decS (ftS f n % 97)
def rowsB (a b : Int) (f : Nat → Int) (n : Nat) : List ByteArray := (List.range n).map fun i => rowB (argA a b i) (f i)
theorem rowsB_snoc (a b : Int) (f : Nat → Int) (n : Nat) : rowsB a b f (n + 1) = rowsB a b f n ++ [rowB (argA a b n) (f n)] := by unfold rowsB; rw [List.range_succ, List.map_append]; rfl
theorem rowsB_len (a b : Int) (f : Nat → Int) (n : Nat) : (rowsB a b f n).length = n := by unfold rowsB; simp
def pageL (s : ByteArray) (a b : Int) (n : Nat) (f : Nat → Int) : List ByteArray := headB s a b n :: (rowsB a b f n ++ [footB f n])
theorem pageL_len (s : ByteArray) (a b : Int) (n : Nat) (f : Nat → Int) : (pageL s a b n f).length = n + 2 := by unfold pageL; simp [rowsB_len]
theorem pageL_head (s : ByteArray) (a b : Int) (n : Nat) (f : Nat → Int) : (pageL s a b n f).getD 0 ⟨#[]⟩ = headB s a b n := rfl
theorem pageL_row (s : ByteArray) (a b : Int) (n : Nat) (f : Nat → Int) {i : Nat} (h : i < n) : (pageL s a b n f).getD (i + 1) ⟨#[]⟩ = rowB (argA a b i) (f i) := by
  unfold pageL
  show (rowsB a b f n ++ [footB f n]).getD i ⟨#[]⟩ = _
  rw [getA_left _ _ _ _ (by rw [rowsB_len]; exact h)]
  have hl : i < (rowsB a b f n).length := by rw [rowsB_len]; exact h
  rw [List.getD_eq_getElem?_getD, List.getElem?_eq_getElem hl]
  have hl' : i < ((List.range n).map fun i => rowB (argA a b i) (f i)).length := hl
  show ((List.range n).map fun i => rowB (argA a b i) (f i))[i]'hl' = _
  rw [List.getElem_map, List.getElem_range]
theorem pageL_foot (s : ByteArray) (a b : Int) (n : Nat) (f : Nat → Int) : (pageL s a b n f).getD (n + 1) ⟨#[]⟩ = footB f n := by
  unfold pageL
  show (rowsB a b f n ++ [footB f n]).getD n ⟨#[]⟩ = _
  have := getA_last (rowsB a b f n) (footB f n) (⟨#[]⟩ : ByteArray)
  rwa [rowsB_len] at this
/-! reading: the head -/
structure Hd where
  nm : ByteArray
  a : Int
  b : Int
  n : Nat
def hd3 (x : ByteArray) (p q r : Option Int) : Option Hd := match p, q, r with
  | some a, some b, some n => if hdOk x a b n.toNat = true then some ⟨x, a, b, n.toNat⟩ else none
  | _, _, _ => none
def hdR (l : ByteArray) : Option Hd := match splitB 32 l with
  | [x, p, q, r] => hd3 x (readN p) (readN q) (readN r)
  | _ => none
theorem hdR_four {l x p q r : ByteArray} (h : splitB 32 l = [x, p, q, r]) : hdR l = hd3 x (readN p) (readN q) (readN r) := by unfold hdR; rw [h]
theorem hdR_not {l : ByteArray} (h : (splitB 32 l).length ≠ 4) : hdR l = none := by
  unfold hdR
  split
  · rename_i he; rw [he] at h; exact absurd rfl h
  · rfl
theorem hd3_some {x : ByteArray} {p q r : Option Int} {h : Hd} (e : hd3 x p q r = some h) : p = some h.a ∧ q = some h.b ∧ (∃ n : Int, r = some n ∧ n.toNat = h.n) ∧ h.nm = x ∧ hdOk h.nm h.a h.b h.n = true := by
  cases p with
  | none => cases e
  | some a =>
    cases q with
    | none => cases e
    | some b =>
      cases r with
      | none => cases e
      | some n =>
        have e' : (if hdOk x a b n.toNat = true then some (⟨x, a, b, n.toNat⟩ : Hd) else none) = some h := e
        by_cases hk : hdOk x a b n.toNat = true
        · rw [if_pos hk] at e'
          have := Option.some.inj e'
          subst this
          exact ⟨rfl, rfl, ⟨n, rfl, rfl⟩, rfl, hk⟩
        · rw [if_neg hk] at e'; cases e'
theorem hdOk_n {s : ByteArray} {a b : Int} {n : Nat} (h : hdOk s a b n = true) : isNm s.data.toList = true ∧ (1 ≤ b ∧ b ≤ 1000) ∧ (1 ≤ n ∧ n ≤ 60) ∧ (-1000000 ≤ a ∧ a ≤ 1000000) ∧ lastA a b n ≤ 1000000 := by
  unfold hdOk at h
  simp only [Bool.and_eq_true, decide_eq_true_eq] at h
  obtain ⟨⟨⟨⟨h1, h2⟩, h3⟩, h4⟩, h5⟩ := h
  have := inB_iff.1 h3
  exact ⟨h1, inB_iff.1 h2, by omega, inB_iff.1 h4, h5⟩
theorem hdR_text {l : ByteArray} {h : Hd} (e : hdR l = some h) : l = headB h.nm h.a h.b h.n ∧ hdOk h.nm h.a h.b h.n = true := by
  unfold hdR at e
  split at e
  · rename_i x p q r he
    obtain ⟨e1, e2, ⟨n, e3, e4⟩, e5, e6⟩ := hd3_some e
    obtain ⟨r1, h1, h2⟩ := splitB_cons he
    obtain ⟨r2, h3, h4⟩ := splitB_cons h2
    obtain ⟨r3, h5, h6⟩ := splitB_cons h4
    have h7 := splitB_one h6
    have hn := (hdOk_n e6).2.2.1
    have hnn : (h.n : Int) = n := by omega
    refine ⟨?_, e6⟩
    unfold headB
    rw [hnn, readN_dec e1, readN_dec e2, readN_dec e3, e5, h1, h3, h5, h7]
    simp only [ByteArray.append_assoc]
  · cases e
theorem hdR_head {s : ByteArray} {a b : Int} {n : Nat} (h : hdOk s a b n = true) : hdR (headB s a b n) = some ⟨s, a, b, n⟩ := by
  obtain ⟨h1, h2, h3, h4, _⟩ := hdOk_n h
  have e : headB s a b n = s ++ ⟨#[32]⟩ ++ (decS a ++ ⟨#[32]⟩ ++ (decS b ++ ⟨#[32]⟩ ++ decS (n : Int))) := by
    unfold headB
    simp only [ByteArray.append_assoc]
  have hs : splitB 32 (headB s a b n) = [s, decS a, decS b, decS (n : Int)] := by
    rw [e, splitB_cut (nm_noA h1 rfl), splitB_cut (dec_noz _ rfl (by decide)), splitB_cut (dec_noz _ rfl (by decide)), splitB_last (dec_noz _ rfl (by decide))]
  rw [hdR_four hs, readN_decS _ (by omega) (by omega), readN_decS _ (by omega) (by omega), readN_decS _ (by omega) (by omega)]
  show (if hdOk s a b (n : Int).toNat = true then some (⟨s, a, b, (n : Int).toNat⟩ : Hd) else none) = _
  rw [Int.toNat_natCast, if_pos h]
/-! reading: a row's line: its fault and its value -/
def rw3 (arg : Int) (p q : Option Int) (r : ByteArray) : Int × Int := match p, q with
  | some x, some v => if isV v = true then (if x = arg then (if r = cht v then (0, v) else (4, 0)) else (3, 0)) else (2, 0)
  | _, _ => (2, 0)
def rwR (l : ByteArray) (arg : Int) : Int × Int := match splitB 32 l with
  | [p, q, r] => rw3 arg (readN p) (readN q) r
  | _ => (2, 0)
theorem rwR_three {l p q r : ByteArray} {arg : Int} (h : splitB 32 l = [p, q, r]) : rwR l arg = rw3 arg (readN p) (readN q) r := by unfold rwR; rw [h]
theorem rwR_not {l : ByteArray} {arg : Int} (h : (splitB 32 l).length ≠ 3) : rwR l arg = (2, 0) := by
  unfold rwR
  split
  · rename_i he; rw [he] at h; exact absurd rfl h
  · rfl
theorem rw3_cases (arg : Int) (p q : Option Int) (r : ByteArray) : ((rw3 arg p q r).1 = 0 ∧ p = some arg ∧ q = some (rw3 arg p q r).2 ∧ r = cht (rw3 arg p q r).2 ∧ isV (rw3 arg p q r).2 = true) ∨ rw3 arg p q r = (2, 0) ∨ rw3 arg p q r = (3, 0) ∨ rw3 arg p q r = (4, 0) := by
  cases p with
  | none => exact .inr (.inl rfl)
  | some x =>
    cases q with
    | none => exact .inr (.inl rfl)
    | some v =>
      show _ ∨ (if isV v = true then (if x = arg then (if r = cht v then ((0 : Int), v) else (4, 0)) else (3, 0)) else (2, 0)) = (2, 0) ∨ _
      have e : rw3 arg (some x) (some v) r = if isV v = true then (if x = arg then (if r = cht v then ((0 : Int), v) else (4, 0)) else (3, 0)) else (2, 0) := rfl
      rw [e]
      by_cases h1 : isV v = true
      · by_cases h2 : x = arg
        · by_cases h3 : r = cht v
          · rw [if_pos h1, if_pos h2, if_pos h3]
            exact .inl ⟨rfl, by rw [h2], rfl, h3, h1⟩
          · rw [if_pos h1, if_pos h2, if_neg h3]; exact .inr (.inr (.inr rfl))
        · rw [if_pos h1, if_neg h2]; exact .inr (.inr (.inl rfl))
      · rw [if_neg h1]; exact .inr (.inl rfl)
theorem rwR_cases (l : ByteArray) (arg : Int) : ((rwR l arg).1 = 0 ∧ l = rowB arg (rwR l arg).2 ∧ isV (rwR l arg).2 = true) ∨ rwR l arg = (2, 0) ∨ rwR l arg = (3, 0) ∨ rwR l arg = (4, 0) := by
  unfold rwR
  split
  · rename_i p q r he
    rcases rw3_cases arg (readN p) (readN q) r with ⟨h0, h1, h2, h3, h4⟩ | h | h | h
    · refine .inl ⟨h0, ?_, h4⟩
      obtain ⟨r1, k1, k2⟩ := splitB_cons he
      obtain ⟨r2, k3, k4⟩ := splitB_cons k2
      have k7 := splitB_one k4
      unfold rowB
      rw [readN_dec h1, readN_dec h2, ← h3, k1, k3, k7]
      simp only [ByteArray.append_assoc]
    · exact .inr (.inl h)
    · exact .inr (.inr (.inl h))
    · exact .inr (.inr (.inr h))
  · exact .inr (.inl rfl)
theorem cht_no (x : Int) : hasNo 32 (cht x) := by
  unfold cht
  split
  · exact dec_noz _ rfl (by decide)
  · exact lit_noA rfl
theorem isV_bd {v : Int} (h : isV v = true) : -1000000000000 ≤ v ∧ v ≤ 1000000000000 := inB_iff.1 h
theorem rwR_row {arg v : Int} (ha : -10000000 ≤ arg ∧ arg ≤ 10000000) (hv : isV v = true) : rwR (rowB arg v) arg = (0, v) := by
  have hb := isV_bd hv
  have e : rowB arg v = decS arg ++ ⟨#[32]⟩ ++ (decS v ++ ⟨#[32]⟩ ++ cht v) := by
    unfold rowB
    simp only [ByteArray.append_assoc]
  have hs : splitB 32 (rowB arg v) = [decS arg, decS v, cht v] := by
    rw [e, splitB_cut (dec_noz _ rfl (by decide)), splitB_cut (dec_noz _ rfl (by decide)), splitB_last (cht_no v)]
  rw [rwR_three hs, readN_decS _ (by omega) (by omega), readN_decS _ (by omega) (by omega)]
  show (if isV v = true then (if arg = arg then (if cht v = cht v then ((0 : Int), v) else (4, 0)) else (3, 0)) else (2, 0)) = _
  rw [if_pos hv, if_pos rfl, if_pos rfl]
/-! the first wrong row -/
def fb (g : Nat → Int) : Nat → Nat
  | 0 => 0
  | n + 1 => if fb g n < n then fb g n else if g n = 0 then n + 1 else n
theorem fb_ok (g : Nat → Int) : ∀ n, fb g n ≤ n ∧ (∀ i, i < fb g n → g i = 0) ∧ (fb g n < n → g (fb g n) ≠ 0)
  | 0 => ⟨Nat.le_refl _, fun i h => by unfold fb at h; omega, fun h => by unfold fb at h; omega⟩
  | n + 1 => by
    obtain ⟨h1, h2, h3⟩ := fb_ok g n
    unfold fb
    by_cases e : fb g n < n
    · rw [if_pos e]; exact ⟨by omega, h2, fun _ => h3 e⟩
    · have hn : fb g n = n := by omega
      rw [if_neg e]
      rw [hn] at h2
      by_cases e2 : g n = 0
      · rw [if_pos e2]
        refine ⟨Nat.le_refl _, fun i hi => ?_, fun h => by omega⟩
        by_cases e3 : i = n
        · subst e3; exact e2
        · exact h2 i (by omega)
      · rw [if_neg e2]; exact ⟨by omega, h2, fun _ => e2⟩
theorem fb_uniq {g : Nat → Int} {n k : Nat} (hk : k ≤ n) (h : ∀ i, i < k → g i = 0) (h2 : k < n → g k ≠ 0) : fb g n = k := by
  obtain ⟨h3, h4, h5⟩ := fb_ok g n
  by_cases e : fb g n < k
  · exact absurd (h _ e) (h5 (by omega))
  · by_cases e2 : k < fb g n
    · exact absurd (h4 k e2) (h2 (by omega))
    · omega
/-! a page's lines, read -/
def lnG (l : List ByteArray) (i : Nat) : ByteArray := l.getD i ⟨#[]⟩
/-- the fault of a row, its value -/
def rwF (l : List ByteArray) (h : Hd) (i : Nat) : Int := if i + 1 < l.length then (rwR (lnG l (i + 1)) (argA h.a h.b i)).1 else 2
def rwV (l : List ByteArray) (h : Hd) (i : Nat) : Int := (rwR (lnG l (i + 1)) (argA h.a h.b i)).2
structure Rd3 where
  hd : Hd
  at' : Int
  ft : Int
/-- what lines tell: a page's head, the first wrong line, its fault -/
def rdP (l : List ByteArray) : Rd3 :=
  if l.length = 0 then ⟨⟨⟨#[]⟩, 0, 0, 0⟩, 0, 1⟩
  else match hdR (lnG l 0) with
    | none => ⟨⟨⟨#[]⟩, 0, 0, 0⟩, 0, 1⟩
    | some h => if fb (rwF l h) h.n < h.n then ⟨⟨⟨#[]⟩, 0, 0, 0⟩, (fb (rwF l h) h.n : Int) + 1, rwF l h (fb (rwF l h) h.n)⟩
      else if l.length = h.n + 2 ∧ lnG l (h.n + 1) = footB (rwV l h) h.n then ⟨h, -1, 0⟩ else ⟨⟨⟨#[]⟩, 0, 0, 0⟩, (h.n : Int) + 1, 5⟩
theorem rdP_nil {l : List ByteArray} (h : l.length = 0) : rdP l = ⟨⟨⟨#[]⟩, 0, 0, 0⟩, 0, 1⟩ := if_pos h
theorem rdP_head {l : List ByteArray} (h : l.length ≠ 0) (h2 : hdR (lnG l 0) = none) : rdP l = ⟨⟨⟨#[]⟩, 0, 0, 0⟩, 0, 1⟩ := by unfold rdP; rw [if_neg h, h2]
theorem rdP_row {l : List ByteArray} {h : Hd} (h0 : l.length ≠ 0) (h2 : hdR (lnG l 0) = some h) {k : Nat} (hk : k < h.n) (hz : ∀ i, i < k → rwF l h i = 0) (hb : rwF l h k ≠ 0) : rdP l = ⟨⟨⟨#[]⟩, 0, 0, 0⟩, (k : Int) + 1, rwF l h k⟩ := by
  have e := fb_uniq (g := rwF l h) (n := h.n) (k := k) (by omega) hz (fun _ => hb)
  unfold rdP
  rw [if_neg h0, h2]
  show (if fb (rwF l h) h.n < h.n then _ else _) = _
  rw [e, if_pos hk]
theorem rdP_end {l : List ByteArray} {h : Hd} (h0 : l.length ≠ 0) (h2 : hdR (lnG l 0) = some h) (hz : ∀ i, i < h.n → rwF l h i = 0) : rdP l = if l.length = h.n + 2 ∧ lnG l (h.n + 1) = footB (rwV l h) h.n then ⟨h, -1, 0⟩ else ⟨⟨⟨#[]⟩, 0, 0, 0⟩, (h.n : Int) + 1, 5⟩ := by
  have e := fb_uniq (g := rwF l h) (n := h.n) (k := h.n) (Nat.le_refl _) hz (fun h => by omega)
  unfold rdP
  rw [if_neg h0, h2]
  show (if fb (rwF l h) h.n < h.n then _ else _) = _
  rw [e, if_neg (by omega)]
theorem rwF_range (l : List ByteArray) (h : Hd) (i : Nat) : rwF l h i = 0 ∨ rwF l h i = 2 ∨ rwF l h i = 3 ∨ rwF l h i = 4 := by
  unfold rwF
  split
  · rcases rwR_cases (lnG l (i + 1)) (argA h.a h.b i) with ⟨h0, _⟩ | h0 | h0 | h0
    · exact .inl h0
    · rw [h0]; exact .inr (.inl rfl)
    · rw [h0]; exact .inr (.inr (.inl rfl))
    · rw [h0]; exact .inr (.inr (.inr rfl))
  · exact .inr (.inl rfl)
/-- THE LAW: faults and lines -/
theorem rdP_fault (l : List ByteArray) : 0 ≤ (rdP l).ft ∧ (rdP l).ft ≤ 5 ∧ ((rdP l).at' = -1 ↔ (rdP l).ft = 0) := by
  by_cases h0 : l.length = 0
  · rw [rdP_nil h0]; exact ⟨by decide, by decide, by decide⟩
  · cases h2 : hdR (lnG l 0) with
    | none => rw [rdP_head h0 h2]; exact ⟨by decide, by decide, by decide⟩
    | some h =>
      obtain ⟨f1, f2, f3⟩ := fb_ok (rwF l h) h.n
      by_cases e : fb (rwF l h) h.n < h.n
      · have hb := f3 e
        rw [rdP_row h0 h2 e f2 hb]
        dsimp only
        rcases rwF_range l h (fb (rwF l h) h.n) with h5 | h5 | h5 | h5 <;> (first | exact absurd h5 hb | (rw [h5]; refine ⟨by decide, by decide, ?_⟩; constructor <;> intro h6 <;> omega))
      · have e2 : fb (rwF l h) h.n = h.n := by omega
        rw [e2] at f2
        rw [rdP_end h0 h2 f2]
        split
        · exact ⟨Int.le_refl _, by show (0 : Int) ≤ 5; decide, ⟨fun _ => rfl, fun _ => rfl⟩⟩
        · dsimp only
          refine ⟨by decide, by decide, ?_⟩
          constructor <;> intro h6 <;> omega
theorem hd_arg {h : Hd} (hk : hdOk h.nm h.a h.b h.n = true) {i : Nat} (hi : i < h.n) : -1000000 ≤ argA h.a h.b i ∧ argA h.a h.b i ≤ 1060000 := by
  obtain ⟨_, h2, h3, h4, _⟩ := hdOk_n hk
  have h5 := Int.mul_nonneg (show 0 ≤ (i : Int) by omega) (show 0 ≤ h.b by omega)
  obtain ⟨c, hc⟩ : ∃ c : Nat, h.b = (c : Int) := ⟨h.b.toNat, by omega⟩
  have h6 : i * c ≤ 59 * 1000 := Nat.mul_le_mul (by omega) (by omega)
  unfold argA
  rw [hc] at h5 ⊢
  have h7 : ((i : Int) * (c : Int)) = ((i * c : Nat) : Int) := by simp
  rw [h7]
  omega
/-- without a fault the lines are a page's -/
theorem rdP_good {l : List ByteArray} (h : (rdP l).ft = 0) : pgOk (rdP l).hd.nm.data.toList (rdP l).hd.a (rdP l).hd.b (rdP l).hd.n (rwV l (rdP l).hd) = true ∧ pageL (rdP l).hd.nm (rdP l).hd.a (rdP l).hd.b (rdP l).hd.n (rwV l (rdP l).hd) = l := by
  by_cases h0 : l.length = 0
  · rw [rdP_nil h0] at h; cases h
  · cases h2 : hdR (lnG l 0) with
    | none => rw [rdP_head h0 h2] at h; cases h
    | some hd =>
      obtain ⟨f1, f2, f3⟩ := fb_ok (rwF l hd) hd.n
      by_cases e : fb (rwF l hd) hd.n < hd.n
      · have hb := f3 e
        rw [rdP_row h0 h2 e f2 hb] at h
        exact absurd h hb
      · have e2 : fb (rwF l hd) hd.n = hd.n := by omega
        rw [e2] at f2
        rw [rdP_end h0 h2 f2] at h ⊢
        by_cases hc : l.length = hd.n + 2 ∧ lnG l (hd.n + 1) = footB (rwV l hd) hd.n
        · rw [if_pos hc] at h ⊢
          dsimp only
          obtain ⟨t1, t2⟩ := hdR_text h2
          have hrow : ∀ i, i < hd.n → lnG l (i + 1) = rowB (argA hd.a hd.b i) (rwV l hd i) ∧ isV (rwV l hd i) = true := fun i hi => by
            have h5 := f2 i hi
            unfold rwF at h5
            rw [if_pos (by omega)] at h5
            rcases rwR_cases (lnG l (i + 1)) (argA hd.a hd.b i) with ⟨_, h6, h7⟩ | h6 | h6 | h6
            · exact ⟨h6, h7⟩
            · rw [h6] at h5; cases h5
            · rw [h6] at h5; cases h5
            · rw [h6] at h5; cases h5
          refine ⟨?_, ?_⟩
          · rw [pgOk_hd, t2, Bool.and_true]
            exact List.all_eq_true.2 fun i hi => (hrow i (List.mem_range.1 hi)).2
          · refine List.ext_getElem (by rw [pageL_len]; exact hc.1.symm) fun i k1 k2 => ?_
            have g1 : (pageL hd.nm hd.a hd.b hd.n (rwV l hd))[i] = (pageL hd.nm hd.a hd.b hd.n (rwV l hd)).getD i ⟨#[]⟩ := by rw [List.getD_eq_getElem?_getD, List.getElem?_eq_getElem k1]; rfl
            have g2 : l[i] = lnG l i := by unfold lnG; rw [List.getD_eq_getElem?_getD, List.getElem?_eq_getElem k2]; rfl
            rw [g1, g2]
            rw [pageL_len] at k1
            by_cases i0 : i = 0
            · subst i0; rw [pageL_head, t1]
            · obtain ⟨j, rfl⟩ : ∃ j, i = j + 1 := ⟨i - 1, by omega⟩
              by_cases hj : j < hd.n
              · rw [pageL_row _ _ _ _ _ hj, (hrow j hj).1]
              · obtain rfl : j = hd.n := by omega
                rw [pageL_foot, hc.2]
        · rw [if_neg hc] at h; cases h
/-- a page's lines are read back -/
theorem rdP_back {s : ByteArray} {a b : Int} {n : Nat} {f : Nat → Int} (h : pgOk s.data.toList a b n f = true) : rdP (pageL s a b n f) = ⟨⟨s, a, b, n⟩, -1, 0⟩ ∧ ∀ i, i < n → rwV (pageL s a b n f) ⟨s, a, b, n⟩ i = f i := by
  rw [pgOk_hd, Bool.and_eq_true] at h
  obtain ⟨hv, hk⟩ := h
  have hl := pageL_len s a b n f
  have h0 : (pageL s a b n f).length ≠ 0 := by omega
  have h2 : hdR (lnG (pageL s a b n f) 0) = some ⟨s, a, b, n⟩ := by
    show hdR ((pageL s a b n f).getD 0 ⟨#[]⟩) = _
    rw [pageL_head, hdR_head hk]
  have hr : ∀ i, i < n → rwR (lnG (pageL s a b n f) (i + 1)) (argA a b i) = (0, f i) := fun i hi => by
    have h3 := hd_arg (h := ⟨s, a, b, n⟩) hk hi
    show rwR ((pageL s a b n f).getD (i + 1) ⟨#[]⟩) _ = _
    rw [pageL_row _ _ _ _ _ hi]
    exact rwR_row (by dsimp only at h3; omega) (allN_get hv hi)
  have hF : ∀ i, i < n → rwF (pageL s a b n f) ⟨s, a, b, n⟩ i = 0 := fun i hi => by
    unfold rwF
    rw [if_pos (by omega)]
    dsimp only
    rw [hr i hi]
  have hV : ∀ i, i < n → rwV (pageL s a b n f) ⟨s, a, b, n⟩ i = f i := fun i hi => by
    unfold rwV
    dsimp only
    rw [hr i hi]
  have hS : ∀ k, k ≤ n → ftS (rwV (pageL s a b n f) ⟨s, a, b, n⟩) k = ftS f k := by
    intro k
    induction k with
    | zero => intro _; rfl
    | succ k ih =>
      intro hk2
      show ftS _ k + _ = ftS f k + _
      rw [ih (by omega), hV k (by omega)]
  refine ⟨?_, hV⟩
  rw [rdP_end h0 h2 hF, if_pos]
  refine ⟨hl, ?_⟩
  show (pageL s a b n f).getD (n + 1) ⟨#[]⟩ = footB _ n
  rw [pageL_foot]
  unfold footB
  rw [hS n (Nat.le_refl _)]
end Go.Proofs.YtnhngccfbnnpoaaDoor
/- Printed pages, part 2: check digits of both sides (gen_pa2.py). -/
namespace Go.Proofs.YtnhngccfbnnpoaaDoor
open Go.RowKit Go.Joins

theorem isV_in {n : Int} (h : isV n = true) : n.natAbs < 10 ^ 13 := by
  have := isV_bd h
  have e : (10 : Nat) ^ 13 = 10000000000000 := by decide
  omega
theorem wsm_small {x : Nat} (h : x < 10 ^ 13) : wsm x 1 ≤ 1638 := by
  have := wsm_bd 13 x 1 h
  omega
theorem ck_pos {n : Int} (h : ¬ n < 0) : ck n = ((wsm n.natAbs 1 % 11 : Nat) : Int) := by
  unfold ck
  rw [if_neg h, Nat.zero_add]
theorem ck_neg {n : Int} (h : n < 0) : ck n = (((5 + wsm n.natAbs 1) % 11 : Nat) : Int) := by
  unfold ck
  rw [if_pos h]
set_option maxRecDepth 100000 in
set_option maxHeartbeats 1600000 in
theorem checkDigit_c (n : Int) (w : World) (h : isV n = true) : Calls Tryd.prog 52 #[.int .i64 n] w fun e w' => e = .returned (.int .i64 (ck n)) ∧ w = w' := by
  have hb := isV_bd h
  have hX := isV_in h
  have hs := wsm_small hX
  have HA := Lib.hid (fun wx => absolute_any n wx (by omega) (by omega))
  have Hp := Lib.hid (fun h0 => ck_pos (n := n) h0)
  have Hn := Lib.hid (fun h0 => ck_neg (n := n) h0)
  obtain ⟨X, hXe⟩ : ∃ X, n.natAbs = X := ⟨_, rfl⟩
  have hX2 : X ≤ 1000000000000 := by omega
  rw [hXe] at HA hs Hp Hn
  clear h hX hXe
  by_cases h0 : n < 0
  · have hck := Hn.out h0
    obtain ⟨T, hT⟩ : ∃ T, 5 + wsm X 1 = T := ⟨_, rfl⟩
    rw [hT] at hck
    have Hck := Lib.hid (show ck n = (T : Int) % 11 by omega)
    have hT2 : T ≤ 1700 := by omega
    have HT := Lib.hid hT
    clear hs hT Hp Hn hck
    go_enter Tryd.func52, Tryd.ntmps52
    go_wp2_with fail
    refine (HA.out _).mono ?_; rintro e w1 ⟨rfl, rfl⟩
    go_wp2_with fail
    go_loop [3, 4, 5] (fun a b c => ∃ s r k : Nat, a = .int .i64 (s : Int) ∧ b = .int .i64 (r : Int) ∧ c = .int .i64 (k : Int) ∧ s + wsm r k + 0 = T ∧ k + r ≤ X + 1 ∧ 1 ≤ k) (fun a b c => (intOf b).toNat)
    case atStart => exact ⟨5, X, 1, rfl, rfl, rfl, by rw [← HT.out]; omega, by omega, by omega⟩
    case round =>
      obtain ⟨s, r, k, rfl, rfl, rfl, hs, hkr, hk1⟩ := hrel
      by_cases hr : r = 0
      · subst hr
        rw [wsm_zero, Nat.add_zero] at hs
        obtain rfl : s = T := by omega
        go_wp2_with fail
        go_ret
        exact ⟨by rw [Hck.out]; rfl, rfl⟩
      · have hr0 : (0 : Int) < (r : Int) := by omega
        have hst := wsm_step (x := r) (k := k) (by omega)
        have ht1 : Int.tmod (r : Int) 10 = ((r % 10 : Nat) : Int) := by rw [Int.tmod_eq_emod_of_nonneg (by omega)]; omega
        have ht2 : Int.tdiv (r : Int) 10 = ((r / 10 : Nat) : Int) := by rw [Int.tdiv_eq_ediv_of_nonneg (by omega)]; omega
        have hq1 : r / 10 + 1 ≤ r := by omega
        have hq2 : r / 10 < r := by omega
        have hd2 : r % 10 ≤ 9 := by omega
        generalize r % 10 = d at *
        generalize r / 10 = q at *
        have hp : (k : Int) * (d : Int) = ((k * d : Nat) : Int) := by simp
        generalize hP : k * d = P at *
        have Hs := Lib.hid (show s + P + wsm q (k + 1) + 0 = T by omega)
        have hsP : s + P ≤ 1700 := by omega
        clear hs hst hP
        go_wp2_with fail
        go_round
        case rel => exact ⟨s + P, q, k + 1, by go_num, by go_num, by go_num, Hs.out, by omega, by omega⟩
        case measure => simp [intOf]; omega
  · have hck := Hp.out h0
    obtain ⟨T, hT⟩ : ∃ T, wsm X 1 = T := ⟨_, rfl⟩
    rw [hT] at hck
    have Hck := Lib.hid (show ck n = (T : Int) % 11 by omega)
    have hT2 : T ≤ 1700 := by omega
    have HT := Lib.hid hT
    clear hs hT Hp Hn hck
    go_enter Tryd.func52, Tryd.ntmps52
    go_wp2_with fail
    refine (HA.out _).mono ?_; rintro e w1 ⟨rfl, rfl⟩
    go_wp2_with fail
    go_loop [3, 4, 5] (fun a b c => ∃ s r k : Nat, a = .int .i64 (s : Int) ∧ b = .int .i64 (r : Int) ∧ c = .int .i64 (k : Int) ∧ s + wsm r k + 0 = T ∧ k + r ≤ X + 1 ∧ 1 ≤ k) (fun a b c => (intOf b).toNat)
    case atStart => exact ⟨0, X, 1, rfl, rfl, rfl, by rw [← HT.out]; omega, by omega, by omega⟩
    case round =>
      obtain ⟨s, r, k, rfl, rfl, rfl, hs, hkr, hk1⟩ := hrel
      by_cases hr : r = 0
      · subst hr
        rw [wsm_zero, Nat.add_zero] at hs
        obtain rfl : s = T := by omega
        go_wp2_with fail
        go_ret
        exact ⟨by rw [Hck.out]; rfl, rfl⟩
      · have hr0 : (0 : Int) < (r : Int) := by omega
        have hst := wsm_step (x := r) (k := k) (by omega)
        have ht1 : Int.tmod (r : Int) 10 = ((r % 10 : Nat) : Int) := by rw [Int.tmod_eq_emod_of_nonneg (by omega)]; omega
        have ht2 : Int.tdiv (r : Int) 10 = ((r / 10 : Nat) : Int) := by rw [Int.tdiv_eq_ediv_of_nonneg (by omega)]; omega
        have hq1 : r / 10 + 1 ≤ r := by omega
        have hq2 : r / 10 < r := by omega
        have hd2 : r % 10 ≤ 9 := by omega
        generalize r % 10 = d at *
        generalize r / 10 = q at *
        have hp : (k : Int) * (d : Int) = ((k * d : Nat) : Int) := by simp
        generalize hP : k * d = P at *
        have Hs := Lib.hid (show s + P + wsm q (k + 1) + 0 = T by omega)
        have hsP : s + P ≤ 1700 := by omega
        clear hs hst hP
        go_wp2_with fail
        go_round
        case rel => exact ⟨s + P, q, k + 1, by go_num, by go_num, by go_num, Hs.out, by omega, by omega⟩
        case measure => simp [intOf]; omega
set_option maxRecDepth 100000 in
set_option maxHeartbeats 1600000 in
theorem l18Check_c (n : Int) (w : World) (h : isV n = true) : Calls Tryd.prog 54 #[.int .i64 n] w fun e w' => e = .returned (.int .i64 (ck n)) ∧ w = w' := by
  have hb := isV_bd h
  have hX := isV_in h
  have hs := wsm_small hX
  have HA := Lib.hid (fun wx => l03Size_c n wx (by omega) (by omega))
  have Hp := Lib.hid (fun h0 => ck_pos (n := n) h0)
  have Hn := Lib.hid (fun h0 => ck_neg (n := n) h0)
  obtain ⟨X, hXe⟩ : ∃ X, n.natAbs = X := ⟨_, rfl⟩
  have hX2 : X ≤ 1000000000000 := by omega
  rw [hXe] at HA hs Hp Hn
  clear h hX hXe
  by_cases h0 : n < 0
  · have hck := Hn.out h0
    obtain ⟨T, hT⟩ : ∃ T, 5 + wsm X 1 = T := ⟨_, rfl⟩
    rw [hT] at hck
    have Hck := Lib.hid (show ck n = (T : Int) % 11 by omega)
    have hT2 : T ≤ 1700 := by omega
    have HT := Lib.hid hT
    clear hs hT Hp Hn hck
    go_enter Tryd.func54, Tryd.ntmps54
    go_wp2_with fail
    refine (HA.out _).mono ?_; rintro e w1 ⟨rfl, rfl⟩
    go_wp2_with fail
    go_loop [3, 4, 5] (fun a b c => ∃ s r k : Nat, a = .int .i64 (s : Int) ∧ c = .int .i64 (r : Int) ∧ b = .int .i64 (k : Int) ∧ s + wsm r k + 5 = T ∧ k + r ≤ X + 1 ∧ 1 ≤ k) (fun a b c => (intOf c).toNat)
    case atStart => exact ⟨0, X, 1, rfl, rfl, rfl, by rw [← HT.out]; omega, by omega, by omega⟩
    case round =>
      obtain ⟨s, r, k, rfl, rfl, rfl, hs, hkr, hk1⟩ := hrel
      by_cases hr : r = 0
      · subst hr
        rw [wsm_zero, Nat.add_zero] at hs
        obtain rfl : s + 5 = T := by omega
        have Hck := Lib.hid (show ck n = ((s : Int) + 5) % 11 by rw [Hck.out]; omega)
        go_wp2_with fail
        go_ret
        exact ⟨by rw [Hck.out]; rfl, rfl⟩
      · have hr0 : (0 : Int) < (r : Int) := by omega
        have hst := wsm_step (x := r) (k := k) (by omega)
        have ht1 : Int.tmod (r : Int) 10 = ((r % 10 : Nat) : Int) := by rw [Int.tmod_eq_emod_of_nonneg (by omega)]; omega
        have ht2 : Int.tdiv (r : Int) 10 = ((r / 10 : Nat) : Int) := by rw [Int.tdiv_eq_ediv_of_nonneg (by omega)]; omega
        have hq1 : r / 10 + 1 ≤ r := by omega
        have hq2 : r / 10 < r := by omega
        have hd2 : r % 10 ≤ 9 := by omega
        generalize r % 10 = d at *
        generalize r / 10 = q at *
        have hp : (k : Int) * (d : Int) = ((k * d : Nat) : Int) := by simp
        generalize hP : k * d = P at *
        have Hs := Lib.hid (show s + P + wsm q (k + 1) + 5 = T by omega)
        have hsP : s + P ≤ 1700 := by omega
        clear hs hst hP
        go_wp2_with fail
        go_round
        case rel => exact ⟨s + P, q, k + 1, by go_num, by go_num, by go_num, Hs.out, by omega, by omega⟩
        case measure => simp [intOf]; omega
  · have hck := Hp.out h0
    obtain ⟨T, hT⟩ : ∃ T, wsm X 1 = T := ⟨_, rfl⟩
    rw [hT] at hck
    have Hck := Lib.hid (show ck n = (T : Int) % 11 by omega)
    have hT2 : T ≤ 1700 := by omega
    have HT := Lib.hid hT
    clear hs hT Hp Hn hck
    go_enter Tryd.func54, Tryd.ntmps54
    go_wp2_with fail
    refine (HA.out _).mono ?_; rintro e w1 ⟨rfl, rfl⟩
    go_wp2_with fail
    go_loop [3, 4, 5] (fun a b c => ∃ s r k : Nat, a = .int .i64 (s : Int) ∧ c = .int .i64 (r : Int) ∧ b = .int .i64 (k : Int) ∧ s + wsm r k + 0 = T ∧ k + r ≤ X + 1 ∧ 1 ≤ k) (fun a b c => (intOf c).toNat)
    case atStart => exact ⟨0, X, 1, rfl, rfl, rfl, by rw [← HT.out]; omega, by omega, by omega⟩
    case round =>
      obtain ⟨s, r, k, rfl, rfl, rfl, hs, hkr, hk1⟩ := hrel
      by_cases hr : r = 0
      · subst hr
        rw [wsm_zero, Nat.add_zero] at hs
        obtain rfl : s = T := by omega
        go_wp2_with fail
        go_ret
        exact ⟨by rw [Hck.out]; rfl, rfl⟩
      · have hr0 : (0 : Int) < (r : Int) := by omega
        have hst := wsm_step (x := r) (k := k) (by omega)
        have ht1 : Int.tmod (r : Int) 10 = ((r % 10 : Nat) : Int) := by rw [Int.tmod_eq_emod_of_nonneg (by omega)]; omega
        have ht2 : Int.tdiv (r : Int) 10 = ((r / 10 : Nat) : Int) := by rw [Int.tdiv_eq_ediv_of_nonneg (by omega)]; omega
        have hq1 : r / 10 + 1 ≤ r := by omega
        have hq2 : r / 10 < r := by omega
        have hd2 : r % 10 ≤ 9 := by omega
        generalize r % 10 = d at *
        generalize r / 10 = q at *
        have hp : (k : Int) * (d : Int) = ((k * d : Nat) : Int) := by simp
        generalize hP : k * d = P at *
        have Hs := Lib.hid (show s + P + wsm q (k + 1) + 0 = T by omega)
        have hsP : s + P ≤ 1700 := by omega
        clear hs hst hP
        go_wp2_with fail
        go_round
        case rel => exact ⟨s + P, q, k + 1, by go_num, by go_num, by go_num, Hs.out, by omega, by omega⟩
        case measure => simp [intOf]; omega
def cdC (n : Int) : Int := if isV n = true then 0 else 2
def cdV (n : Int) : Int := if isV n = true then ck n else 0
theorem CheckDigitI_c (n : Int) (w : World) : Calls Tryd.prog 20 #[.int .i64 n] w fun e w' => e = .returned (.tuple #[.int .i64 (cdV n), .int .i64 (cdC n)]) ∧ w = w' := by
  have HV := Lib.hid (show ∀ wx, Calls Tryd.prog 51 #[.int .i64 n] wx fun e w' => e = .returned (.bool (isV n)) ∧ wx = w' from fun wx => isValue_c n wx)
  cases h : isV n with
  | false =>
    have E1 := Lib.hid (show cdV n = 0 by unfold cdV; rw [h]; rfl)
    have E2 := Lib.hid (show cdC n = 2 by unfold cdC; rw [h]; rfl)
    rw [h] at HV
    clear h
    go_enter Tryd.func20, Tryd.ntmps20
    go_wp2_with fail
    refine (HV.out _).mono ?_; rintro e w1 ⟨rfl, rfl⟩
    go_wp2_with fail
    go_ret2
    exact ⟨by rw [E1.out, E2.out]; rfl, rfl⟩
  | true =>
    have E1 := Lib.hid (show cdV n = ck n by unfold cdV; rw [if_pos h])
    have E2 := Lib.hid (show cdC n = 0 by unfold cdC; rw [if_pos h])
    have HC := Lib.hid (fun wx => checkDigit_c n wx h)
    rw [h] at HV
    clear h
    go_enter Tryd.func20, Tryd.ntmps20
    go_wp2_with fail
    refine (HV.out _).mono ?_; rintro e w1 ⟨rfl, rfl⟩
    go_wp2_with fail
    refine (HC.out _).mono ?_; rintro e w1 ⟨rfl, rfl⟩
    go_wp2_with fail
    go_ret2
    exact ⟨by rw [E1.out, E2.out]; rfl, rfl⟩
theorem CheckDigitS_c (n : Int) (w : World) : Calls Tryd.prog 21 #[.int .i64 n] w fun e w' => e = .returned (.tuple #[.int .i64 (cdV n), .int .i64 (cdC n)]) ∧ w = w' := by
  have HV := Lib.hid (show ∀ wx, Calls Tryd.prog 53 #[.int .i64 n] wx fun e w' => e = .returned (.bool (isV n)) ∧ wx = w' from fun wx => l17Most_c n wx)
  cases h : isV n with
  | false =>
    have E1 := Lib.hid (show cdV n = 0 by unfold cdV; rw [h]; rfl)
    have E2 := Lib.hid (show cdC n = 2 by unfold cdC; rw [h]; rfl)
    rw [h] at HV
    clear h
    go_enter Tryd.func21, Tryd.ntmps21
    go_wp2_with fail
    refine (HV.out _).mono ?_; rintro e w1 ⟨rfl, rfl⟩
    go_wp2_with fail
    go_ret2
    exact ⟨by rw [E1.out, E2.out]; rfl, rfl⟩
  | true =>
    have E1 := Lib.hid (show cdV n = ck n by unfold cdV; rw [if_pos h])
    have E2 := Lib.hid (show cdC n = 0 by unfold cdC; rw [if_pos h])
    have HC := Lib.hid (fun wx => l18Check_c n wx h)
    rw [h] at HV
    clear h
    go_enter Tryd.func21, Tryd.ntmps21
    go_wp2_with fail
    refine (HV.out _).mono ?_; rintro e w1 ⟨rfl, rfl⟩
    go_wp2_with fail
    refine (HC.out _).mono ?_; rintro e w1 ⟨rfl, rfl⟩
    go_wp2_with fail
    go_ret2
    exact ⟨by rw [E1.out, E2.out]; rfl, rfl⟩
/-- the character of a check digit -/
def chS (d : Int) : ByteArray := if d < 10 then decS d else ⟨#[120]⟩
theorem cht_eq (x : Int) : cht x = chS (ck x) := rfl
theorem checkText_c (n : Int) (w : World) (h : isV n = true) (ht : Tab w) : Calls Tryd.prog 60 #[.int .i64 n] w fun e w' => e = .returned (.string (cht n)) ∧ Below w.heap.size w w' := by
  have hb := ck_bd n
  have HC := Lib.hid (fun wx => checkDigit_c n wx h)
  have E := Lib.hid (cht_eq n)
  have Ht := Lib.hid ht
  clear h ht
  generalize ck n = d at *
  by_cases hd : d < 10
  · have HD := Lib.hid (fun wx hx => Decimal_any d wx (by omega) (by omega) hx)
    have E2 := Lib.hid (show chS d = decS d by unfold chS; rw [if_pos hd])
    go_enter Tryd.func60, Tryd.ntmps60
    go_wp2_with fail
    refine (HC.out _).mono ?_; rintro e w1 ⟨rfl, rfl⟩
    go_wp2_with fail
    refine (HD.out _ Ht.out).mono ?_; rintro e w1 ⟨rfl, hb1⟩
    go_wp2_with fail
    go_ret
    exact ⟨by rw [E.out, E2.out]; rfl, hb1⟩
  · have E2 := Lib.hid (show chS d = ⟨#[120]⟩ by unfold chS; rw [if_neg hd])
    go_enter Tryd.func60, Tryd.ntmps60
    go_wp2_with fail
    refine (HC.out _).mono ?_; rintro e w1 ⟨rfl, rfl⟩
    go_wp2_with fail
    go_ret
    exact ⟨by rw [E.out, E2.out]; rfl, Below.refl _ _⟩
theorem l18Sign_c (d : Int) (w : World) (h0 : 0 ≤ d) (h1 : d ≤ 10) : Calls Tryd.prog 78 #[.int .i64 d] w fun e w' => e = .returned (.string (chS d)) ∧ Below w.heap.size w w' := by
  by_cases hd : d = 10
  · subst hd
    go_enter Tryd.func78, Tryd.ntmps78
    go_wp2_with fail
    go_ret
    exact ⟨rfl, Below.refl _ _⟩
  · have HD := Lib.hid (fun wx => l01Dec_any d wx (by omega) (by omega))
    have E2 := Lib.hid (show chS d = decS d by unfold chS; rw [if_pos (by omega)])
    have hd2 : (d == 10) = false := by simp [hd]
    go_enter Tryd.func78, Tryd.ntmps78
    go_wp2_with fail
    refine (HD.out _).mono ?_; rintro e w1 ⟨rfl, hb1⟩
    go_wp2_with fail
    go_ret
    exact ⟨by rw [E2.out]; rfl, hb1⟩
end Go.Proofs.YtnhngccfbnnpoaaDoor
/- A region that draws its order, step by step: an operation that is taken first, its slot given by number. No program is named here. -/
namespace Go.Proofs.YtnhngccfbnnpoaaDoor
open Go.RowKit

section
variable {P : Program} {ops : Array Oper} {Q : Exit → Act → World → Prop} {md : Region.Mode} {S : World → Prop}
theorem take_d {i : Nat} {oi : Oper} {d : Option Nat} {v : Value} {fuel : Nat} {listed : Array Bool} {a : Act} {w : World} (hi : ops[i]? = some oi) (hd : oi.dst = d)
    (hs : Region.noSelect ops = true) (hf : Region.free md ops listed i = true) (hr : (Region.ready md ops listed).contains i = true)
    (hQ : ∀ c a w, Q (.panic c) (a.put d v) w → Q (.panic c) a w) (hy : YieldsIf P ops S oi v a) (hS : S w)
    (h : wpAnyH P md ops Q S fuel (listed.setIfInBounds i true) (a.put d v) w) : wpAnyH P md ops Q S (fuel + 1) listed a w := by
  subst hd
  exact wpAnyH_take hi hs hf hr hQ hy hS h
theorem call_d {i : Nat} {o : Oper} {d : Option Nat} {fuel : Nat} {listed : Array Bool} {a : Act} {w : World} (ho : ops[i]? = some o) (hd : o.dst = d) (hr : Region.ready md ops listed = [i])
    (h : ∀ K' : Act → World → Prop, Shut (∀ a w, S w → (S w → wpAnyH P md ops Q S fuel (listed.setIfInBounds i true) a w) → K' a w) → if Region.wanted o (yielded ops a.tmps) = true then Oper.wp P o a w K' Q else K' (a.put d undef) w) :
    wpAnyH P md ops Q S (fuel + 1) listed a w := by
  subst hd
  exact wpAnyH_ready hr (by simp) (AllReadyH.cons ho h AllReadyH.nil)
end
end Go.Proofs.YtnhngccfbnnpoaaDoor
/- A region that draws its order and whose last operations write where the region has loaded: the loads are taken first; S is not asked behind those last operations (Ls). No program is named here. -/
namespace Go.Proofs.YtnhngccfbnnpoaaDoor
open Go.RowKit

section
variable {P : Program} {ops : Array Oper} {Q : Exit → Act → World → Prop} {md : Region.Mode} {S : World → Prop} {L : Nat} {Ls : List Nat}

/-- every operation that has come up has those ahead of it come up -/
def ClosedL (md : Region.Mode) (ops : Array Oper) (listed : Array Bool) : Prop :=
  ∀ (k : Nat) (o : Oper), ops[k]? = some o → listed.getD k true = true → ∀ e ∈ o.after, Region.binds md e = true → listed.getD e.on false = true
def closedB (md : Region.Mode) (ops : Array Oper) (listed : Array Bool) : Bool :=
  (List.range ops.size).all fun k => !listed.getD k true || ((ops[k]?).map (·.after.all fun e => !Region.binds md e || listed.getD e.on false)).getD true
theorem closedB_spec {listed : Array Bool} (h : closedB md ops listed = true) : ClosedL md ops listed := by
  intro k o ho hk e he hb
  unfold closedB at h
  rw [List.all_eq_true] at h
  have h1 := h k (List.mem_range.2 (Array.getElem?_eq_some_iff.1 ho).1)
  rw [ho, hk] at h1
  simp only [Bool.not_true, Bool.false_or, Option.map_some, Option.getD_some] at h1
  have h2 := Array.all_eq_true_iff_forall_mem.1 h1 e he
  rw [hb] at h2
  simpa using h2
theorem ClosedL.set {listed : Array Bool} {j : Nat} (h : ClosedL md ops listed) (hj : j ∈ Region.ready md ops listed) : ClosedL md ops (listed.setIfInBounds j true) := by
  intro k o ho hk e he hb
  by_cases hkj : j = k
  · subst hkj
    obtain ⟨_, o', ho', hall⟩ := mem_ready.1 hj
    rw [ho] at ho'
    cases ho'
    exact getD_set_true (hall e he hb)
  · rw [getD_set_ne true hkj] at hk
    exact getD_set_true (h k o ho hk e he hb)
/-- a chain of operations, each of which waits for the next -/
def waitsB (md : Region.Mode) (ops : Array Oper) : List Nat → Bool
  | x :: y :: rest => (((ops[x]?).map (·.after.any fun e => Region.binds md e && e.on == y)).getD false) && waitsB md ops (y :: rest)
  | _ => true
theorem waits_cons {x y : Nat} {rest : List Nat} (h : waitsB md ops (x :: y :: rest) = true) : (∃ o, ops[x]? = some o ∧ ∃ e ∈ o.after, Region.binds md e = true ∧ e.on = y) ∧ waitsB md ops (y :: rest) = true := by
  unfold waitsB at h
  rw [Bool.and_eq_true] at h
  refine ⟨?_, h.2⟩
  cases ho : ops[x]? with
  | none => rw [ho] at h; simp at h
  | some o =>
    rw [ho] at h
    simp only [Option.map_some, Option.getD_some] at h
    obtain ⟨e, he, hb⟩ := Array.any_eq_true'.1 h.1
    simp only [Bool.and_eq_true, beq_iff_eq] at hb
    exact ⟨o, rfl, e, he, hb.1, hb.2⟩
theorem getD_ft {l : Array Bool} {i : Nat} (h : l.getD i false = true) : l.getD i true = true := by
  rcases Nat.lt_or_ge i l.size with h' | h'
  · simp [h'] at h ⊢; exact h
  · simp [Array.getElem?_eq_none h'] at h
theorem listed_last {listed : Array Bool} (hc : ClosedL md ops listed) : ∀ (rest : List Nat) (y : Nat), listed.getD y false = true → waitsB md ops (y :: rest) = true → listed.getD ((y :: rest).getLast (by simp)) false = true
  | [], _, h, _ => h
  | z :: rest, y, h, hw => by
    obtain ⟨⟨o, ho, e, he, hb, hon⟩, hw2⟩ := waits_cons hw
    have h2 := hc y o ho (getD_ft h) e he hb
    rw [hon] at h2
    have h3 := listed_last hc rest z h2 hw2
    rw [List.getLast_cons (by simp)]
    exact h3
def lateB (md : Region.Mode) (ops : Array Oper) (L : Nat) (p : List Nat) (i : Nat) : Bool := !p.isEmpty && waitsB md ops (L :: p) && p.getLast? == some i
theorem late_not {listed : Array Bool} {p : List Nat} {i : Nat} (hc : ClosedL md ops listed) (h : lateB md ops L p i = true) (hi : listed.getD i true = false) : L ∉ Region.ready md ops listed := by
  intro hL
  unfold lateB at h
  simp only [Bool.and_eq_true, beq_iff_eq] at h
  obtain ⟨⟨h0, h1⟩, h2⟩ := h
  cases p with
  | nil => simp at h0
  | cons y rest =>
    obtain ⟨⟨o, ho, e, he, hb, hon⟩, hw⟩ := waits_cons h1
    obtain ⟨_, o', ho', hall⟩ := mem_ready.1 hL
    rw [ho] at ho'
    cases ho'
    have hy := hall e he hb
    rw [hon] at hy
    have hl := listed_last hc rest y hy hw
    rw [List.getLast?_eq_some_getLast (by simp)] at h2
    injection h2 with h2
    rw [h2] at hl
    rw [getD_ft hl] at hi
    cases hi

/-- what comes behind L in a list -/
def behind (L : Nat) : List Nat → List Nat
  | [] => []
  | x :: l => if x == L then l else behind L l
/-- every one of Ls waits for i, by the chain Ls ++ p -/
def lateAll (md : Region.Mode) (ops : Array Oper) (Ls p : List Nat) (i : Nat) : Bool := Ls.all fun L => lateB md ops L (behind L (Ls ++ p)) i
theorem lateAll_spec {p : List Nat} {i : Nat} (h : lateAll md ops Ls p i = true) (hL : L ∈ Ls) : lateB md ops L (behind L (Ls ++ p)) i = true := List.all_eq_true.1 h L hL
/-- none of the last ones has come up -/
def noneL (Ls : List Nat) (listed : Array Bool) : Bool := Ls.all fun L => !listed.getD L false
theorem noneL_set {listed : Array Bool} {j : Nat} (hj : j ∉ Ls) (h : noneL Ls listed = true) : noneL Ls (listed.setIfInBounds j true) = true := by
  unfold noneL at *
  rw [List.all_eq_true] at *
  intro L hL
  rw [getD_set_ne false (show j ≠ L from fun e => hj (e ▸ hL))]
  exact h L hL
theorem noneL_of {listed : Array Bool} {j : Nat} (h : noneL Ls (listed.setIfInBounds j true) = true) : noneL Ls listed = true := by
  unfold noneL at *
  rw [List.all_eq_true] at *
  intro L hL
  have h1 := h L hL
  cases hb : listed.getD L false with
  | false => rfl
  | true => rw [getD_set_true hb] at h1; exact h1
/-- whatever order is picked, and S holds as long as none of the last ones has come up -/
def wpAnyL (P : Program) (md : Region.Mode) (ops : Array Oper) (Q : Exit → Act → World → Prop) (S : World → Prop) (Ls : List Nat) : Nat → Array Bool → Act → World → Prop
  | 0, listed, a, w => Region.ready md ops listed = [] ∧ Q .normal a w
  | fuel + 1, listed, a, w =>
    (Region.ready md ops listed = [] → Q .normal a w) ∧
    ∀ i ∈ Region.ready md ops listed, wpOp P ops Q i (fun a' w' => (noneL Ls (listed.setIfInBounds i true) = true → S w') ∧ wpAnyL P md ops Q S Ls fuel (listed.setIfInBounds i true) a' w') a w
theorem wpAny_of_L : ∀ (fuel : Nat) (listed : Array Bool) (a : Act) (w : World), wpAnyL P md ops Q S Ls fuel listed a w → wpAny P md ops Q fuel listed a w
  | 0, _, _, _, h => h
  | fuel + 1, _, _, _, h => ⟨h.1, fun i hi => wpOp_mono (fun a' w' h' => wpAny_of_L fuel _ a' w' h'.2) (h.2 i hi)⟩

theorem wpAnyL_first {S0 : World → Prop} {i : Nat} {oi : Oper} {v : Value} (hi : ops[i]? = some oi) (hsel : ∀ (j : Nat) (o : Oper) cs b, ops[j]? = some o → o.op ≠ .select cs b)
    (hQ : ∀ c a w, Q (.panic c) (a.put oi.dst v) w → Q (.panic c) a w) (hiL : i ∉ Ls) (p : List Nat) (hor : (lateAll md ops Ls p i = true ∧ ∀ w, S w → S0 w) ∨ ∀ w, S0 w) :
    ∀ (fuel : Nat) (listed : Array Bool) (a : Act) (w : World), ClosedL md ops listed → (noneL Ls listed = true → S w) → ((∀ w, S0 w) ∨ noneL Ls listed = true) →
      (∀ j oj, ops[j]? = some oj → j ≠ i → listed.getD j true = false → (∀ e ∈ oj.after, Region.binds md e = true → e.on ≠ i) → oi.apart ops oj = true) →
      i ∈ Region.ready md ops listed → YieldsIf P ops S0 oi v a →
      wpAnyL P md ops Q S Ls fuel (listed.setIfInBounds i true) (a.put oi.dst v) w → wpAnyL P md ops Q S Ls (fuel + 1) listed a w := by
  have hS0 : ∀ (listed : Array Bool) (w : World), (noneL Ls listed = true → S w) → ((∀ w, S0 w) ∨ noneL Ls listed = true) → S0 w := fun listed w hS hn => by
    rcases hn with h | h
    · exact h w
    · rcases hor with h' | h'
      · exact h'.2 w (hS h)
      · exact h' w
  intro fuel
  induction fuel with
  | zero =>
    intro listed a w _ hS hn _ hr hy H
    refine ⟨fun h => (by rw [h] at hr; cases hr), fun j hj => ?_⟩
    by_cases hji : j = i
    · subst hji
      exact hy.wpOp hi (hS0 listed w hS hn) ⟨fun h => hS (noneL_of h), H⟩
    · have hm := ready_mono hj hji
      rw [H.1] at hm
      cases hm
  | succ fuel ih =>
    intro listed a w hc hS hn hfree hr hy H
    refine ⟨fun h => (by rw [h] at hr; cases hr), fun j hj => ?_⟩
    by_cases hji : j = i
    · subst hji
      exact hy.wpOp hi (hS0 listed w hS hn) ⟨fun h => hS (noneL_of h), H⟩
    · have hu := (mem_ready.1 hr).1
      have h1 := H.2 j (ready_mono hj hji)
      have hn' : (∀ w, S0 w) ∨ noneL Ls (listed.setIfInBounds j true) = true := by
        rcases hn with h | h
        · exact .inl h
        · rcases hor with h' | h'
          · exact .inr (noneL_set (fun e => late_not hc (lateAll_spec h'.1 e) hu hj) h)
          · exact .inl h'
      obtain ⟨hjun, oj, hoj, hall⟩ := mem_ready.1 hj
      have hnot : ∀ e ∈ oj.after, Region.binds md e = true → e.on ≠ i := fun e he hb heq => by
        have h2 := hall e he hb
        rw [heq] at h2
        rw [getD_ft h2] at hu
        cases hu
      have h2 := wpOp_putIf hoj (hfree j oj hoj hji hjun hnot) (fun cs b => hsel i oi cs b hi) (fun cs b => hsel j oj cs b hoj) hQ hy h1
      have hfree' : ∀ k ok, ops[k]? = some ok → k ≠ i → (listed.setIfInBounds j true).getD k true = false →
          (∀ e ∈ ok.after, Region.binds md e = true → e.on ≠ i) → oi.apart ops ok = true := fun k ok hk hki hun hno => by
        by_cases hjk : j = k
        · subst hjk
          exact hfree j ok hk hki hjun hno
        · rw [getD_set_ne true hjk] at hun
          exact hfree k ok hk hki hun hno
      refine wpOp_mono (fun a' w' h3 => ?_) h2
      have hS' : noneL Ls (listed.setIfInBounds j true) = true → S w' := fun h => h3.2.1 (by
        rw [Array.setIfInBounds_comm _ _ (Ne.symm hji)]
        exact noneL_set hiL h)
      refine ⟨hS', ih (listed.setIfInBounds j true) a' w' (hc.set hj) hS' hn' hfree' (ready_mono hr (Ne.symm hji)) h3.1 ?_⟩
      rw [Array.setIfInBounds_comm _ _ hji]
      exact h3.2.2

/-- a load: taken first, under S -/
theorem take_L {i : Nat} {oi : Oper} {d : Option Nat} {v : Value} {fuel : Nat} {listed : Array Bool} {a : Act} {w : World} (p : List Nat) (hL : lateAll md ops Ls p i = true) (hc : closedB md ops listed = true) (hn : noneL Ls listed = true) (hiL : Ls.contains i = false) (hi : ops[i]? = some oi) (hd : oi.dst = d)
    (hs : Region.noSelect ops = true) (hf : Region.free md ops listed i = true) (hr : (Region.ready md ops listed).contains i = true)
    (hQ : ∀ c a w, Q (.panic c) (a.put d v) w → Q (.panic c) a w) (hy : YieldsIf P ops S oi v a) (hS : S w)
    (h : wpAnyL P md ops Q S Ls fuel (listed.setIfInBounds i true) (a.put d v) w) : wpAnyL P md ops Q S Ls (fuel + 1) listed a w := by
  subst hd
  exact wpAnyL_first hi (Region.noSelect_spec hs) hQ (fun e => by simp [e] at hiL) p (.inl ⟨hL, fun _ h => h⟩) fuel listed a w (closedB_spec hc) (fun _ => hS) (.inr hn) (Region.free_spec hi hf) (by simpa using hr) hy h
/-- what yields in whatever world: taken first -/
theorem take_F {i : Nat} {oi : Oper} {d : Option Nat} {v : Value} {fuel : Nat} {listed : Array Bool} {a : Act} {w : World} (hc : closedB md ops listed = true) (hiL : Ls.contains i = false) (hi : ops[i]? = some oi) (hd : oi.dst = d)
    (hs : Region.noSelect ops = true) (hf : Region.free md ops listed i = true) (hr : (Region.ready md ops listed).contains i = true)
    (hQ : ∀ c a w, Q (.panic c) (a.put d v) w → Q (.panic c) a w) (hy : YieldsIf P ops (fun _ => True) oi v a) (hS : S w)
    (h : wpAnyL P md ops Q S Ls fuel (listed.setIfInBounds i true) (a.put d v) w) : wpAnyL P md ops Q S Ls (fuel + 1) listed a w := by
  subst hd
  exact wpAnyL_first (S0 := fun _ => True) hi (Region.noSelect_spec hs) hQ (fun e => by simp [e] at hiL) [] (.inr fun _ => trivial) fuel listed a w (closedB_spec hc) (fun _ => hS) (.inl fun _ => trivial) (Region.free_spec hi hf) (by simpa using hr) hy h
/-- the only operation that may come up; S is shown anew -/
theorem call_L {i : Nat} {o : Oper} {d : Option Nat} {fuel : Nat} {listed : Array Bool} {a : Act} {w : World} (ho : ops[i]? = some o) (hd : o.dst = d) (hr : Region.ready md ops listed = [i])
    (h : ∀ K' : Act → World → Prop, Shut (∀ a w, S w → (S w → wpAnyL P md ops Q S Ls fuel (listed.setIfInBounds i true) a w) → K' a w) → if Region.wanted o (yielded ops a.tmps) = true then Oper.wp P o a w K' Q else K' (a.put d undef) w) :
    wpAnyL P md ops Q S Ls (fuel + 1) listed a w := by
  subst hd
  refine ⟨fun h0 => absurd (h0.symm.trans hr) (by simp), fun j hj => ?_⟩
  rw [hr] at hj
  obtain rfl := List.mem_singleton.1 hj
  exact wpOp_step ho (fun K' hK => h K' (fun a w hS hW => hK a w ⟨fun _ => hS, hW hS⟩))
/-- two operations that may come up -/
theorem both_L {i j : Nat} {oi oj : Oper} {di dj : Option Nat} {fuel : Nat} {listed : Array Bool} {a : Act} {w : World} (hoi : ops[i]? = some oi) (hdi : oi.dst = di) (hoj : ops[j]? = some oj) (hdj : oj.dst = dj) (hr : Region.ready md ops listed = [i, j])
    (h1 : ∀ K' : Act → World → Prop, Shut (∀ a w, S w → (S w → wpAnyL P md ops Q S Ls fuel (listed.setIfInBounds i true) a w) → K' a w) → if Region.wanted oi (yielded ops a.tmps) = true then Oper.wp P oi a w K' Q else K' (a.put di undef) w)
    (h2 : ∀ K' : Act → World → Prop, Shut (∀ a w, S w → (S w → wpAnyL P md ops Q S Ls fuel (listed.setIfInBounds j true) a w) → K' a w) → if Region.wanted oj (yielded ops a.tmps) = true then Oper.wp P oj a w K' Q else K' (a.put dj undef) w) :
    wpAnyL P md ops Q S Ls (fuel + 1) listed a w := by
  subst hdi
  subst hdj
  refine ⟨fun h0 => absurd (h0.symm.trans hr) (by simp), fun k hk => ?_⟩
  rw [hr] at hk
  rcases List.mem_cons.1 hk with rfl | hk
  · exact wpOp_step hoi (fun K' hK => h1 K' (fun a w hS hW => hK a w ⟨fun _ => hS, hW hS⟩))
  · obtain rfl := List.mem_singleton.1 hk
    exact wpOp_step hoj (fun K' hK => h2 K' (fun a w hS hW => hK a w ⟨fun _ => hS, hW hS⟩))
/-- .. and S is not asked -/
theorem late_L {i : Nat} {o : Oper} {d : Option Nat} {fuel : Nat} {listed : Array Bool} {a : Act} {w : World} (hi : noneL Ls (listed.setIfInBounds i true) = false) (ho : ops[i]? = some o) (hd : o.dst = d) (hr : Region.ready md ops listed = [i])
    (h : ∀ K' : Act → World → Prop, Shut (∀ a w, wpAnyL P md ops Q S Ls fuel (listed.setIfInBounds i true) a w → K' a w) → if Region.wanted o (yielded ops a.tmps) = true then Oper.wp P o a w K' Q else K' (a.put d undef) w) :
    wpAnyL P md ops Q S Ls (fuel + 1) listed a w := by
  subst hd
  refine ⟨fun h0 => absurd (h0.symm.trans hr) (by simp), fun j hj => ?_⟩
  rw [hr] at hj
  obtain rfl := List.mem_singleton.1 hj
  exact wpOp_step ho (fun K' hK => h K' (fun a w hW => hK a w ⟨fun hne => absurd (hi.symm.trans hne) (by simp), hW⟩))
theorem done_L {listed : Array Bool} {a : Act} {w : World} (hr : Region.ready md ops listed = []) (h : Q .normal a w) : ∀ fuel, wpAnyL P md ops Q S Ls fuel listed a w
  | 0 => ⟨hr, h⟩
  | _ + 1 => ⟨fun _ => h, by rw [hr]; simp⟩
theorem wp_region_L {id : Nat} {a : Act} {w : World} (Ls : List Nat) (S : World → Prop) (hm : P.follows .mixedOrders = true) (hS : S w.drew)
    (h : S w.drew → wpAnyL P .any ops Q S Ls ops.size (Array.replicate ops.size false) a w.drew) : (Code.region id ops true).wp P Q a w :=
  wp_region_any hm (wpAny_of_L _ _ _ _ (h hS))
end
end Go.Proofs.YtnhngccfbnnpoaaDoor
/- Mended rows, part 4: the reference's valid pages, and its code. -/
namespace Go.Proofs.YtnhngccfbnnpoaaDoor
open Go.RowKit Go.Joins

theorem l18Arg_c (x : Int) (w : World) : Calls Tryd.prog 62 #[.int .i64 x] w fun e w' => e = .returned (.bool (inB x (-1000000) 1000000)) ∧ w = w' := by
  have HB := Lib.hid (fun wx => l00In_any x (-1000000) 1000000 wx)
  go_enter Tryd.func62, Tryd.ntmps62
  go_wp2_with fail
  refine (HB.out _).mono ?_; rintro e w1 ⟨rfl, rfl⟩
  go_wp2_with fail
  go_ret
  exact ⟨rfl, rfl⟩
theorem l00Own_c (B : Nat) (v : Value) (n : Nat) (f : Nat → Int) (w : World) (h : Rd w B v n 1 (tab n f)) (hB : B ≤ w.heap.size) (hn : n ≤ 1000) (h0 : 0 < n) :
    Calls Tryd.prog 49 #[v] w (RetF w n f) := by
  have H := Lib.hid h
  obtain ⟨A, c, rfl⟩ := rd_sl h
  obtain ⟨b, o, hA, hb, _⟩ := rdF_all h h0
  subst hA
  clear h
  have hb0 := Lib.hid ((Below.refl w.heap.size w).alloc (Nat.le_refl _) (.cells #[] 2))
  have ho0 := Lib.hid (World.ownsRow_made (base := w.heap.size) (e := 2) (size := 1) w #[] 0 (Nat.le_refl _) (by simp [maxLen]) rfl)
  obtain ⟨b', o', hA', hb', hcc⟩ := rdF_all (H.out.below (hb0.out.mono hB)) h0
  obtain ⟨rfl, rfl⟩ : b = b' ∧ o = o' := by simpa using hA'
  have Hcc := Lib.hid (show ∀ (i : Nat) (u : Value), (tab n f)[i]? = some u → (w.alloc (.cells #[] 2)).cell? ⟨b, o + i, none⟩ = some u from fun i u hu => by
    have hi : i < n := by have := (List.getElem?_eq_some_iff.1 hu).1; rwa [tab_len] at this
    rw [tab_at f hi] at hu
    rw [← hu]; exact hcc i hi)
  clear hcc hA'
  go_enter Tryd.func49, Tryd.ntmps49
  go_wp2_with (at_builtin; refine wpList_apr 24 2 _ 1 8 Tryd.underlying24 infoD rfl (by omega) _ _ rfl rfl w.heap.size _ 0 _ rfl ho0.out b o n _ (tab n f) rfl (by rw [tab_len]; omega) Hcc.out (tab_one n f) (by simp [maxLen]; omega) (by omega) hb0.out.size ?_; intro v7 w7 hown7 hg7; have Hb7 := Lib.hid (below_apd hb0.out ho0.out hg7 (Nat.le_refl _) hb0.out.size); simp only [Nat.zero_add, List.nil_append] at hown7; obtain ⟨A7, c7, rfl⟩ := own_sl hown7; have Hown7 := Lib.hid hown7; clear hown7 hg7)
  go_ret
  exact ⟨_, rfl, Hown7.out, Hb7.out⟩
set_option maxRecDepth 100000 in
set_option maxHeartbeats 3200000 in
theorem l18Ok_c (g : Nat) (B : Nat) (s : ByteArray) (a b : Int) (A : Option Addr) (n c : Nat) (f : Nat → Int) (w : World) (hs : s.size ≤ 1048576)
    (f0 : w.cell? ⟨g, 0, none⟩ = some (.string s)) (f1 : w.cell? ⟨g, 1, none⟩ = some (.int .i64 a)) (f2 : w.cell? ⟨g, 2, none⟩ = some (.int .i64 b)) (f3 : w.cell? ⟨g, 3, none⟩ = some (.slice A n c)) (h : Rd w B (.slice A n c) n 1 (tab n f)) (hn : n ≤ 1000) :
    Calls Tryd.prog 36 #[.pointer (some ⟨g, 0, none⟩)] w fun e w' => e = .returned (.bool (pgOk s.data.toList a b n f)) ∧ ∃ d, w' = w.drewN d := by
  have H := Lib.hid h
  have HN := Lib.hid (fun wx => flipQ (IsNameS_any s wx hs))
  have HA := Lib.hid (fun wx => flipQ (l18Arg_c a wx))
  have HB := Lib.hid (fun wx => flipQ (l00In_any b 1 1000 wx))
  have HM := Lib.hid (fun wx => flipQ (l00In_any (n : Int) 1 60 wx))
  have HL := Lib.hid (fun wx => flipQ (l18Arg_c (lastA a b n) wx))
  have hl := rd_sl h
  clear h hl
  cases h1 : isNm s.data.toList with
  | false =>
    have E := Lib.hid (show pgOk s.data.toList a b n f = false by unfold pgOk; rw [h1]; rfl)
    rw [h1] at HN
    clear h1 HL
    go_enter Tryd.func36, Tryd.ntmps36
    go_wp2_with fail
    go_quiet ((go_at_call 61; with_reducible exact Calls.quiet_of_same (HN.out _)))
    go_wp2_with fail
    go_ret
    exact ⟨ret_bool E.out.symm, nq, rfl⟩
  | true =>
    cases h2 : inB a (-1000000) 1000000 with
    | false =>
      have E := Lib.hid (show pgOk s.data.toList a b n f = false by unfold pgOk; rw [h1, h2]; rfl)
      rw [h1] at HN
      rw [h2] at HA
      clear h1 h2 HL
      go_enter Tryd.func36, Tryd.ntmps36
      go_wp2_with fail
      go_quiet ((first | (go_at_call 61; with_reducible exact Calls.quiet_of_same (HN.out _)) | (go_at_call 62; with_reducible exact Calls.quiet_of_same (HA.out _))))
      go_wp2_with fail
      go_ret
      exact ⟨ret_bool E.out.symm, nq, rfl⟩
    | true =>
      cases h3 : inB b 1 1000 with
      | false =>
        have E := Lib.hid (show pgOk s.data.toList a b n f = false by unfold pgOk; rw [h1, h2, h3]; rfl)
        rw [h1] at HN
        rw [h2] at HA
        rw [h3] at HB
        clear h1 h2 h3 HL
        go_enter Tryd.func36, Tryd.ntmps36
        go_wp2_with fail
        go_quiet ((first | (go_at_call 61; with_reducible exact Calls.quiet_of_same (HN.out _)) | (go_at_call 62; with_reducible exact Calls.quiet_of_same (HA.out _)) | (go_at_call 46; with_reducible exact Calls.quiet_of_same (HB.out _))))
        go_wp2_with fail
        go_ret
        exact ⟨ret_bool E.out.symm, nq, rfl⟩
      | true =>
        cases h4 : inB (n : Int) 1 60 with
        | false =>
          have E := Lib.hid (show pgOk s.data.toList a b n f = false by unfold pgOk; rw [h1, h2, h3, h4]; rfl)
          rw [h1] at HN
          rw [h2] at HA
          rw [h3] at HB
          rw [h4] at HM
          clear h1 h2 h3 h4 HL
          go_enter Tryd.func36, Tryd.ntmps36
          go_wp2_with fail
          go_quiet ((first | (go_at_call 61; with_reducible exact Calls.quiet_of_same (HN.out _)) | (go_at_call 62; with_reducible exact Calls.quiet_of_same (HA.out _)) | (go_at_call 46; with_reducible exact Calls.quiet_of_same (HB.out _)) | (go_at_call 46; with_reducible exact Calls.quiet_of_same (HM.out _))))
          go_wp2_with fail
          go_ret
          exact ⟨ret_bool E.out.symm, nq, rfl⟩
        | true =>
          have hb := inB_iff.1 h3
          have hn60 := inB_iff.1 h4
          have ha := inB_iff.1 h2
          have hp := prod_bd (n := n) (b := b) (by omega) hb
          have E := Lib.hid (show pgOk s.data.toList a b n f = (inB (lastA a b n) (-1000000) 1000000 && allN n (fun i => isV (f i))) by unfold pgOk lastA; rw [h1, h2, h3, h4]; rfl)
          rw [h1] at HN
          rw [h2] at HA
          rw [h3] at HB
          rw [h4] at HM
          clear h1 h2 h3 h4
          have hn1 : (1 : Int) ≤ (n : Int) := hn60.1
          have hw1 : IntKind.i64.wrap ((n : Int) - 1) = (n : Int) - 1 := IntWalk.i64_in _ (by omega)
          have hw2 : IntKind.i64.wrap (((n : Int) - 1) * b) = ((n : Int) - 1) * b := IntWalk.i64_in _ (by omega)
          have hw3 : IntKind.i64.wrap (a + ((n : Int) - 1) * b) = lastA a b n := IntWalk.i64_in _ (by omega)
          cases h5 : inB (lastA a b n) (-1000000) 1000000 with
          | false =>
            rw [h5] at HL
            have E := Lib.hid (show pgOk s.data.toList a b n f = false by rw [E.out, h5]; rfl)
            clear h5
            go_enter Tryd.func36, Tryd.ntmps36
            go_wp2_with fail
            go_quiet ((first | (go_at_call 61; with_reducible exact Calls.quiet_of_same (HN.out _)) | (go_at_call 62; with_reducible exact Calls.quiet_of_same (HA.out _)) | (go_at_call 46; with_reducible exact Calls.quiet_of_same (HB.out _)) | (go_at_call 46; with_reducible exact Calls.quiet_of_same (HM.out _)) | (go_at_call 62; with_reducible exact Calls.quiet_of_same (HL.out _))))
            go_wp2_with fail
            go_ret
            exact ⟨ret_bool E.out.symm, nq, rfl⟩
          | true =>
            rw [h5] at HL
            have E := Lib.hid (show pgOk s.data.toList a b n f = allN n (fun i => isV (f i)) by rw [E.out, h5]; rfl)
            clear h5
            go_enter Tryd.func36, Tryd.ntmps36
            go_wp2_with fail
            go_quiet ((first | (go_at_call 61; with_reducible exact Calls.quiet_of_same (HN.out _)) | (go_at_call 62; with_reducible exact Calls.quiet_of_same (HA.out _)) | (go_at_call 46; with_reducible exact Calls.quiet_of_same (HB.out _)) | (go_at_call 46; with_reducible exact Calls.quiet_of_same (HM.out _)) | (go_at_call 62; with_reducible exact Calls.quiet_of_same (HL.out _))))
            clear hw1 hw2 hw3
            go_wp2_with fail
            obtain ⟨w1, hw1⟩ : ∃ x, x = w.drewN nq := ⟨_, rfl⟩
            rw [← hw1]
            have f3 : w1.cell? ⟨g, 3, none⟩ = some (.slice A n c) := by rw [hw1]; exact f3
            have H := Lib.hid (show Rd w1 B (.slice A n c) n 1 (tab n f) by rw [hw1]; exact H.out.drewN nq)
            have Hw1 := Lib.hid hw1
            clear hw1
            go_loop [4] (fun i => ∃ k : Nat, k ≤ n ∧ i = .int .i64 (k : Int) ∧ allN k (fun i => isV (f i)) = true) (fun i => n - (intOf i).toNat)
            case atStart => exact ⟨0, Nat.zero_le _, rfl, rfl⟩
            case round =>
              obtain ⟨k, hk, rfl, hall⟩ := hrel
              have Hall := Lib.hid hall
              clear hall
              by_cases hlt : k < n
              · obtain ⟨b1, o1, hA, _, hcc⟩ := rdF_all H.out (show 0 < n by omega)
                subst hA
                have q0 := hcc k hlt
                have hlt' : (k : Int) < (n : Int) := by omega
                have HX := Lib.hid (show ∀ wx, Calls Tryd.prog 53 #[.int .i64 (f k)] wx fun e w' => e = .returned (.bool (isV (f k))) ∧ wx = w' from fun wx => l17Most_c (f k) wx)
                clear hcc
                cases hb : isV (f k) with
                | false =>
                  have Hr := Lib.hid (show pgOk s.data.toList a b n f = false by rw [E.out]; exact allN_bad k hlt hb)
                  rw [hb] at HX
                  clear hb
                  generalize f k = x at *
                  go_wp2_with fail
                  refine (HX.out _).mono ?_; rintro e w1 ⟨rfl, rfl⟩
                  go_wp2_with fail
                  go_ret
                  exact ⟨ret_bool Hr.out.symm, nq, Hw1.out⟩
                | true =>
                  have Hst := Lib.hid (allN_step (f := fun i => isV (f i)) Hall.out hb)
                  rw [hb] at HX
                  clear hb
                  generalize f k = x at *
                  go_wp2_with fail
                  refine (HX.out _).mono ?_; rintro e w1 ⟨rfl, rfl⟩
                  go_wp2_with fail
                  go_round
                  case rel => exact ⟨k + 1, by omega, by go_num, Hst.out⟩
                  case measure => first | (simp [intOf]; done) | (simp [intOf]; omega)
              · obtain rfl : k = n := by omega
                have Hr := Lib.hid (show pgOk s.data.toList a b k f = true by rw [E.out]; exact Hall.out)
                go_wp2_with fail
                go_ret
                exact ⟨ret_bool Hr.out.symm, nq, Hw1.out⟩
end Go.Proofs.YtnhngccfbnnpoaaDoor
/- The draw 'one'. -/
namespace Go.Proofs.YtnhngccfbnnpoaaDoor
open Go.RowKit Go.Joins

set_option maxHeartbeats 400000 in
theorem one_any (B g k : Nat) (bs : List UInt8) (n : Int) (w : World) (h : SrcAt w B g k bs) (hk : k < 4611686018427387900) :
    Calls Tryd.prog 41 #[.pointer (some ⟨g, 0, none⟩), .int .i64 n] w (DrawnB w B g (k + 2) bs) := by
  have H := Lib.hid h; clear h
  go_enter Tryd.func41, Tryd.ntmps41
  go_wp2_with fail
  refine (pick_any B g k bs n _ H.out (by omega)).mono ?_; rintro e w1 ⟨x, rfl, _, hs1, hg1⟩
  have Hs1 := Lib.hid hs1; clear hs1
  go_wp2_with fail
  go_ret
  exact ⟨_, rfl, Hs1.out, hg1⟩

end Go.Proofs.YtnhngccfbnnpoaaDoor
/- Draws: one of some numbers is drawn. -/
namespace Go.Proofs.YtnhngccfbnnpoaaDoor
open Go.RowKit Go.Joins

set_option maxHeartbeats 400000 in
theorem among_in (B g k m : Nat) (l : List Int) (bs : List UInt8) (w : World) (h : SrcAt w B g k bs) (hk : k < 4611686018427387800) (hm : l.length = m) (hm2 : 2 ≤ m) (hm3 : m ≤ 200) :
    Calls Tryd.prog 42 #[.pointer (some ⟨g, 0, none⟩), .slice (some ⟨w.heap.size, 0, none⟩) m m] (w.alloc (.cells (l.map (Value.int .i64)).toArray 2)) fun e w' => ∃ x : Int, x ∈ l ∧ e = .returned (.int .i64 x) ∧ SrcAt w' B g (k + 2) bs ∧ w.grownBy w' (some g) := by
  have hlt := h.lt
  have hbk := (Below.refl w.heap.size w).alloc (Nat.le_refl _) (.cells (l.map (Value.int .i64)).toArray 2)
  have hnc : ∀ i (hi : i < l.length), (w.alloc (.cells (l.map (Value.int .i64)).toArray 2)).cell? ⟨w.heap.size, i, none⟩ = some (.int .i64 l[i]) := fun i hi => by
    have := new_cells w (l.map (Value.int .i64)).toArray 2 i (.int .i64 l[i]) (by simp [hi])
    rwa [show (⟨w.heap.size, 0, none⟩ : Addr).add i = ⟨w.heap.size, i, none⟩ by unfold Addr.add; split <;> simp_all] at this
  have H := Lib.hid (h.below hbk); clear h
  have Hc := Lib.hid hnc; clear hnc
  have Hg := Lib.hid (fun w' (h : (w.alloc (.cells (l.map (Value.int .i64)).toArray 2)).grownBy w' (some g)) => grown_from_alloc h)
  have hsz : w.heap.size < (w.alloc (.cells (l.map (Value.int .i64)).toArray 2)).heap.size := by simp
  have hm4 : (m : Int) ≤ 200 := by omega
  clear hbk
  generalize w.alloc (.cells (l.map (Value.int .i64)).toArray 2) = wl at *
  go_enter Tryd.func42, Tryd.ntmps42
  go_wp2_with fail
  refine (pick_any B g k bs m _ H.out (by omega)).mono ?_; rintro e w1 ⟨x, rfl, ⟨hx0, hx1, _⟩, hs1, hg1⟩
  have Hs1 := Lib.hid hs1; clear hs1
  obtain ⟨i, rfl⟩ : ∃ i : Nat, x = i := ⟨x.toNat, by omega⟩
  have hx2 := hx1 (by omega)
  have hi : i < l.length := by omega
  have hcell := (World.cell?_of_block (a := ⟨w.heap.size, i, none⟩) (hg1.block w.heap.size hsz (fun e => by injection e; omega))).trans (Hc.out i hi)
  have hg2 := Hg.out _ hg1
  have hin := Lib.hid (show l[i] ∈ l from List.getElem_mem hi)
  generalize l[i] = z at *
  clear hx1 hg1
  go_wp2_with fail
  go_ret
  exact ⟨z, hin.out, rfl, Hs1.out, hg2⟩
end Go.Proofs.YtnhngccfbnnpoaaDoor
/- Errors of tables, part 6: draws. -/
namespace Go.Proofs.YtnhngccfbnnpoaaDoor
open Go.RowKit Go.Joins

theorem own_gs {wr w2 : World} {gs B n sz : Nat} {e : TypeId} {v : Value} {xs : List Value} (h : wr.ownsRow B e sz v n xs) (h2 : wr.grownBy w2 (some gs)) (hgs : gs < B) : w2.ownsRow B e sz v n xs :=
  h.kept h2 (.inr (fun e => by have := (h.lt gs e).1; omega))
theorem grown_own {w w1 w2 : World} {g n sz : Nat} {e : TypeId} {v : Value} {xs : List Value} (h : w.grownBy w1 (some g)) (ho : w1.ownsRow w.heap.size e sz v n xs) (h2 : w1.grownBy w2 v.ownBlock) : w.grownBy w2 (some g) :=
  ⟨h2.os.trans h.os, h2.tape.trans h.tape, h2.output.trans h.output, Nat.le_trans h.size h2.size, fun i hi hne => (h2.block i (Nat.lt_of_lt_of_le hi h.size) (fun e => by have := (ho.lt i e.symm).1; omega)).trans (h.block i hi hne)⟩
theorem grown_set (w' : World) (g i : Nat) (v : Value) : w'.grownBy (w'.setCell ⟨g, i, none⟩ v) (some g) :=
  ⟨rfl, rfl, rfl, by simp [World.setCell], fun i _ hi => Below.heap_setCell _ _ _ _ (fun e => hi (by rw [e]))⟩
theorem grown_refl (w : World) (r : Option Nat) : w.grownBy w r := ⟨rfl, rfl, rfl, Nat.le_refl _, fun _ _ _ => rfl⟩

theorem l17DrawValue_c (B g k : Nat) (bs : List UInt8) (w : World) (h : SrcAt w B g k bs) (hk : k < 4611686018427387000) : Calls Tryd.prog 50 #[.pointer (some ⟨g, 0, none⟩)] w (Drawn w B g (k + 8) bs (fun _ => True)) := by
  have H := Lib.hid h
  clear h
  go_enter Tryd.func50, Tryd.ntmps50
  go_wp2_with fail
  refine (one_any B g k bs 20 _ H.out (by omega)).mono ?_; rintro e w1 ⟨x, rfl, hs1, hg1⟩
  have Hs1 := Lib.hid hs1
  have Hg1 := Lib.hid hg1
  clear hs1 hg1
  cases x with
  | true =>
    go_wp2_with fail
    refine (among_in B g (k + 2) 5 [-1000000000001, -1000000000000, 1000000000000, 1000000000001, -9223372036854775808] bs w1 Hs1.out (by omega) rfl (by omega) (by omega)).mono ?_; rintro e w2 ⟨x, _, rfl, hs2, hg2⟩
    have Hf := Lib.hid (And.intro (hs2.more (show k + 2 + 2 ≤ k + 8 by omega)) (grown_trans Hg1.out hg2))
    clear hs2 hg2
    go_wp2_with fail
    go_ret
    exact ⟨x, rfl, trivial, Hf.out.1, Hf.out.2⟩
  | false =>
    go_wp2_with fail
    refine (pick_any B g (k + 2) bs 2000 _ Hs1.out (by omega)).mono ?_; rintro e w2 ⟨x, rfl, _, hs2, hg2⟩
    have Hs2 := Lib.hid hs2
    have Hg2 := Lib.hid (grown_trans Hg1.out hg2)
    clear hs2 hg2
    go_wp2_with fail
    refine (pick_any B g (k + 2 + 2) bs 3 _ Hs2.out (by omega)).mono ?_; rintro e w3 ⟨y, rfl, _, hs3, hg3⟩
    have Hs3 := Lib.hid hs3
    have Hg3 := Lib.hid (grown_trans Hg2.out hg3)
    clear hs3 hg3
    go_wp2_with fail
    refine (pick_any B g (k + 2 + 2 + 2) bs 100 _ Hs3.out (by omega)).mono ?_; rintro e w4 ⟨z, rfl, _, hs4, hg4⟩
    have Hf := Lib.hid (And.intro (hs4.more (show k + 2 + 2 + 2 + 2 ≤ k + 8 by omega)) (grown_trans Hg3.out hg4))
    clear hs4 hg4
    go_wp2_with fail
    go_ret
    exact ⟨_, rfl, trivial, Hf.out.1, Hf.out.2⟩
def Drawn2 (w : World) (B g k : Nat) (bs : List UInt8) (e : Ending) (w' : World) : Prop :=
  ∃ x y, e = .returned (.tuple #[.int .i64 x, .int .i64 y]) ∧ SrcAt w' B g k bs ∧ w.grownBy w' (some g)
/-- a list is drawn -/
def DrawnL (M : Nat) (w : World) (B g k : Nat) (bs : List UInt8) (e : Ending) (w' : World) : Prop :=
  ∃ v n f, e = .returned v ∧ n ≤ M ∧ w'.ownsRow w.heap.size 2 1 v n (tab n f) ∧ SrcAt w' B g k bs ∧ w.grownBy w' (some g)
theorem tab_more (n : Nat) (f : Nat → Int) (x : Int) : ∃ f', tab (n + 1) f' = tab n f ++ [.int .i64 x] := ⟨fun i => if i < n then f i else x, by
  rw [tab_succ, if_neg (by omega)]
  congr 1
  exact tab_congr fun i hi => by rw [if_pos hi]⟩
end Go.Proofs.YtnhngccfbnnpoaaDoor
/- Mended rows, part 5: odd rows. -/
namespace Go.Proofs.YtnhngccfbnnpoaaDoor
open Go.RowKit Go.Joins

theorem od_same {o k : Nat} {f : Nat → Int} (h : (oF o f k (o + k) == due (oF o f k) o (o + k)) = true) : oF o f (k + 1) = oF o f k ∧ oL o f (k + 1) = oL o f k := by
  have e : oHit o (oF o f k) (o + k) = false := by unfold oHit; rw [h]; rfl
  exact ⟨by show (if _ then _ else _) = _; rw [e, Bool.false_and]; rfl, by show (if _ then _ else _) = _; rw [e]; rfl⟩
theorem od_put {o k : Nat} {f : Nat → Int} (h : (oF o f k (o + k) == due (oF o f k) o (o + k)) = false) (hv : isV (due (oF o f k) o (o + k)) = true) : oF o f (k + 1) = put (oF o f k) (o + k) (due (oF o f k) o (o + k)) ∧ oL o f (k + 1) = oL o f k ++ [((o + k : Nat) : Int)] := by
  have e : oHit o (oF o f k) (o + k) = true := by unfold oHit; rw [h]; rfl
  exact ⟨by show (if _ then _ else _) = _; rw [e, hv]; rfl, by show (if _ then _ else _) = _; rw [e]; rfl⟩
theorem od_bad {o k : Nat} {f : Nat → Int} (h : (oF o f k (o + k) == due (oF o f k) o (o + k)) = false) (hv : isV (due (oF o f k) o (o + k)) = false) : oF o f (k + 1) = oF o f k ∧ oL o f (k + 1) = oL o f k ++ [((o + k : Nat) : Int)] := by
  have e : oHit o (oF o f k) (o + k) = true := by unfold oHit; rw [h]; rfl
  exact ⟨by show (if _ then _ else _) = _; rw [e, hv]; rfl, by show (if _ then _ else _) = _; rw [e]; rfl⟩
/-- a list of numbers, or none and a code -/
def RetOdd (w : World) (code : Int) (l : List Int) (e : Ending) (w' : World) : Prop :=
  ∃ v l', e = .returned (.tuple #[v, .int .i64 code]) ∧ (code = 0 → l' = l) ∧ (code ≠ 0 → l' = []) ∧ w'.ownsRow w.heap.size 2 1 v l'.length (nmV l') ∧ Below w.heap.size w w'
theorem RetOdd.no {w w' : World} {code c : Int} {l : List Int} (he : code = c) (h : c ≠ 0) (hb : Below w.heap.size w w') : RetOdd w code l (.returned (.tuple #[.slice none 0 0, .int .i64 c])) w' := by
  subst he
  exact ⟨_, [], rfl, fun e => absurd e h, fun _ => rfl, World.ownsRow_nil _ _ _ _, hb⟩
theorem RetOdd.yes {w w' : World} {code : Int} {l : List Int} {v : Value} (he : code = 0) (h : w'.ownsRow w.heap.size 2 1 v l.length (nmV l)) (hb : Below w.heap.size w w') : RetOdd w code l (.returned (.tuple #[v, .int .i64 0])) w' := by
  subst he
  exact ⟨_, l, rfl, fun _ => rfl, fun e => absurd rfl e, h, hb⟩
/-- the numbers under way and the odd rows so far -/
structure OdAt (w w2 w3 wr : World) (gv cv m : Nat) (F : Nat → Int) (a : Value) (l : List Int) : Prop where
  vals : wr.ownsRow w2.heap.size 2 1 (.slice (some ⟨gv, 0, none⟩) m cv) m (tab m F)
  out : wr.ownsRow w3.heap.size 2 1 a l.length (nmV l)
  lt : gv < w3.heap.size
  bel : Below w.heap.size w wr
  sz : w3.heap.size ≤ wr.heap.size
theorem OdAt.drewN {w w2 w3 wr : World} {gv cv m : Nat} {F : Nat → Int} {a : Value} {l : List Int} (h : OdAt w w2 w3 wr gv cv m F a l) (d : Nat) : OdAt w w2 w3 (wr.drewN d) gv cv m F a l :=
  ⟨h.vals.drewN d, h.out.drewN d, h.lt, below_drewN h.bel d, h.sz⟩
theorem OdAt.app {w w2 w3 wr w' : World} {gv cv m : Nat} {F : Nat → Int} {a v' : Value} {l : List Int} {x : Int} (h : OdAt w w2 w3 wr gv cv m F a l) (hw : w.heap.size ≤ w3.heap.size) (h2 : w'.ownsRow w3.heap.size 2 1 v' (l.length + 1) (nmV l ++ [.int .i64 x])) (hg : wr.grownBy w' a.ownBlock) : OdAt w w2 w3 w' gv cv m F v' (l ++ [x]) :=
  ⟨h.vals.kept hg (.inr (fun e => by have := (h.out.lt gv e.symm).1; have := h.lt; omega)), by rw [List.length_append, nmV_app]; exact h2, h.lt, h.bel.grown hg (Nat.le_trans hw h.sz) (fun k hk => Nat.le_trans hw (h.out.lt k hk).1), Nat.le_trans h.sz hg.size⟩
theorem OdAt.put {w w2 w3 wr : World} {gv cv m : Nat} {F : Nat → Int} {a : Value} {l : List Int} (h : OdAt w w2 w3 wr gv cv m F a l) (hw : w.heap.size ≤ w2.heap.size) (i : Nat) (x : Int) : OdAt w w2 w3 (wr.setCell ⟨gv, i, none⟩ (.int .i64 x)) gv cv m (put F i x) a l := by
  have h1 := (h.vals.stored i (.int .i64 x)).1
  rw [tab_set] at h1
  exact ⟨h1, own_gs h.out (grown_set wr gv i (.int .i64 x)) h.lt, h.lt, h.bel.setCell (p := ⟨gv, i, none⟩) (Nat.le_trans hw (h.vals.lt gv rfl).1) _, by simpa [World.setCell] using h.sz⟩
end Go.Proofs.YtnhngccfbnnpoaaDoor
