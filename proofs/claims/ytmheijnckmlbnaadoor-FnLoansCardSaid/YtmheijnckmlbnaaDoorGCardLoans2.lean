/- Merged texts: Rn1, Rn2, Rn3, Rn4, Ld1, Ld2, Rn5, Ld0, Strs, Args, ArgRows, En1, En2, En3, En4, Lo1. -/
import Derived.Test.YtmheijnckmlbnaaDoorGCardLoans1
import Derived.Lib.SmallJoins
import Derived.ProofKit
import Derived.OpenShut
import Derived.Deep.Slices
import Derived.SliceStrings
/- Numbers read from texts: the plain reading; ReadDecimal (program). -/
namespace Go.Proofs.YtmheijnckmlbnaaDoor
open Go.RowKit Go.Joins

def isDg (c : UInt8) : Bool := decide (48 ≤ c.toNat) && decide (c.toNat ≤ 57)
def numVN (l : List UInt8) : Nat := l.foldl (fun n c => 10 * n + (c.toNat - 48)) 0
theorem numVN_snoc (l : List UInt8) (c : UInt8) : numVN (l ++ [c]) = 10 * numVN l + (c.toNat - 48) := by simp [numVN]
theorem numVN_lt' : ∀ (l : List UInt8), (∀ c ∈ l, isDg c = true) → ∀ n : Nat, l.foldl (fun n c => 10 * n + (c.toNat - 48)) n < (n + 1) * 10 ^ l.length := by
  intro l
  induction l with
  | nil => intro _ n; simp
  | cons c l ih =>
    intro h n
    have h1 := ih (fun x hx => h x (List.mem_cons_of_mem _ hx)) (10 * n + (c.toNat - 48))
    have h2 := h c List.mem_cons_self
    unfold isDg at h2
    simp only [Bool.and_eq_true, decide_eq_true_eq] at h2
    rw [List.foldl_cons, List.length_cons, Nat.pow_succ]
    have h3 : (10 * n + (c.toNat - 48) + 1) * 10 ^ l.length ≤ (10 * (n + 1)) * 10 ^ l.length := Nat.mul_le_mul_right _ (by omega)
    have h4 : (10 * (n + 1)) * 10 ^ l.length = (n + 1) * (10 ^ l.length * 10) := by
      rw [Nat.mul_comm 10 (n + 1), Nat.mul_assoc, Nat.mul_comm 10]
    omega
theorem numVN_lt (l : List UInt8) (h : ∀ c ∈ l, isDg c = true) : numVN l < 10 ^ l.length := by
  have := numVN_lt' l h 0
  unfold numVN
  omega
/-- what stands behind a sign -/
def bodyN (s : ByteArray) : ByteArray := if s.data.toList.head? = some 45 then s.extract 1 s.size else s
def valN (s : ByteArray) : Int := if (bodyN s).size < s.size then -(numVN (bodyN s).data.toList : Int) else numVN (bodyN s).data.toList
def readN (s : ByteArray) : Option Int :=
  if (bodyN s).size = 0 ∨ 18 < (bodyN s).size then none
  else if (bodyN s).data.toList.all isDg = true then (if decS (valN s) = s then some (valN s) else none) else none
theorem isDigitN_any (c : UInt8) (w : World) : Calls Tryd.prog 91 #[.int .u8 (c.toNat : Int)] w fun e w' => e = .returned (.bool (isDg c)) ∧ w = w' := by
  unfold isDg
  by_cases h1 : 48 ≤ c.toNat
  · have h1' : (48 : Int) ≤ (c.toNat : Int) := by omega
    by_cases h2 : c.toNat ≤ 57
    · have h2' : (c.toNat : Int) ≤ 57 := by omega
      go_enter Tryd.func91, Tryd.ntmps91
      go_wp2_with fail
      go_ret
      exact ⟨by simp [h1, h2], rfl⟩
    · have h2' : ¬ (c.toNat : Int) ≤ 57 := by omega
      go_enter Tryd.func91, Tryd.ntmps91
      go_wp2_with fail
      go_ret
      exact ⟨by simp, rfl⟩
  · have h1' : ¬ (48 : Int) ≤ (c.toNat : Int) := by omega
    go_enter Tryd.func91, Tryd.ntmps91
    go_wp2_with fail
    go_ret
    exact ⟨by simp, rfl⟩
theorem l01DigitN_any (c : UInt8) (w : World) : Calls Tryd.prog 107 #[.int .u8 (c.toNat : Int)] w fun e w' => e = .returned (.bool (isDg c)) ∧ w = w' := by
  unfold isDg
  by_cases h1 : 48 ≤ c.toNat
  · have h1' : (48 : Int) ≤ (c.toNat : Int) := by omega
    by_cases h2 : c.toNat ≤ 57
    · have h2' : (c.toNat : Int) ≤ 57 := by omega
      go_enter Tryd.func107, Tryd.ntmps107
      go_wp2_with fail
      go_ret
      exact ⟨by simp [h1, h2], rfl⟩
    · have h2' : ¬ (c.toNat : Int) ≤ 57 := by omega
      go_enter Tryd.func107, Tryd.ntmps107
      go_wp2_with fail
      go_ret
      exact ⟨by simp, rfl⟩
  · have h1' : ¬ (48 : Int) ≤ (c.toNat : Int) := by omega
    go_enter Tryd.func107, Tryd.ntmps107
    go_wp2_with fail
    go_ret
    exact ⟨by simp, rfl⟩
end Go.Proofs.YtmheijnckmlbnaaDoor
/- Numbers read from texts, part 2: ReadDecimal and l01Number (under way). -/
namespace Go.Proofs.YtmheijnckmlbnaaDoor
open Go.RowKit Go.Joins

def RetN1 (w : World) (s : ByteArray) (e : Ending) (w' : World) : Prop := e = .returned (.tuple #[.int .i64 ((readN s).getD 0), .bool (readN s).isSome]) ∧ Below w.heap.size w w'
theorem head_sizeN {s : ByteArray} (h : s.data.toList.head? = some 45) : ∃ h0 : 0 < s.size, s[0] = 45 := by
  have h0 : 0 < s.size := by
    rcases Nat.eq_zero_or_pos s.size with h1 | h1
    · have : s.data.toList = [] := List.eq_nil_of_length_eq_zero (by simpa using h1)
      rw [this] at h; simp at h
    · exact h1
  refine ⟨h0, ?_⟩
  have h2 : s.data.toList.head? = some s[0] := by
    rw [List.head?_eq_getElem?, List.getElem?_eq_getElem (by simpa using h0)]
    rfl
  rw [h2] at h
  exact Option.some.inj h
theorem head_not {s : ByteArray} (h : ¬ s.data.toList.head? = some 45) (h0 : 0 < s.size) : s[0] ≠ 45 := by
  intro e
  refine h ?_
  rw [List.head?_eq_getElem?, List.getElem?_eq_getElem (by simpa using h0)]
  rw [← e]; rfl
theorem take_at (s : ByteArray) (k : Nat) (hk : k < s.size) : numVN (s.data.toList.take (k + 1)) = 10 * numVN (s.data.toList.take k) + (s[k].toNat - 48) := by
  rw [List.take_succ_eq_append_getElem (by simpa using hk), numVN_snoc]
  rfl
theorem readN_none {s : ByteArray} (h : (bodyN s).size = 0 ∨ 18 < (bodyN s).size) : readN s = none := by unfold readN; rw [if_pos h]
theorem readN_bad {s : ByteArray} (k : Nat) (hk : k < (bodyN s).size) (h : isDg (bodyN s)[k] = false) : readN s = none := by
  unfold readN
  split
  · rfl
  · rw [if_neg]
    intro ha
    have := List.all_eq_true.1 ha (bodyN s)[k] (List.getElem_mem (l := (bodyN s).data.toList) (n := k) (by simpa using hk))
    rw [h] at this; cases this
theorem readN_val {s : ByteArray} (h1 : ¬((bodyN s).size = 0 ∨ 18 < (bodyN s).size)) (h2 : ∀ c ∈ (bodyN s).data.toList, isDg c = true) : readN s = if decS (valN s) = s then some (valN s) else none := by
  unfold readN
  rw [if_neg h1, if_pos (List.all_eq_true.2 h2)]
theorem valN_bd {s : ByteArray} (h1 : ¬((bodyN s).size = 0 ∨ 18 < (bodyN s).size)) (h2 : ∀ c ∈ (bodyN s).data.toList, isDg c = true) : numVN (bodyN s).data.toList < 1000000000000000000 := by
  have h := numVN_lt _ h2
  have h3 : (10 : Nat) ^ (bodyN s).data.toList.length ≤ 10 ^ 18 := Nat.pow_le_pow_right (by omega) (by
    have : (bodyN s).data.toList.length = (bodyN s).size := by simp
    omega)
  have h4 : (10 : Nat) ^ 18 = 1000000000000000000 := by decide
  omega
end Go.Proofs.YtmheijnckmlbnaaDoor
/- Numbers read from texts, part 3 (printed by gen_rn3.py): ReadDecimal (program). -/
namespace Go.Proofs.YtmheijnckmlbnaaDoor
open Go.RowKit Go.Joins

theorem tail_size1 (s : ByteArray) : (s.extract 1 s.size).size = s.size - 1 := by rw [ByteArray.size_extract]; omega
theorem dig_wrap (c : UInt8) (h : isDg c = true) : IntKind.u8.wrap ((c.toNat : Int) - 48) = ((c.toNat - 48 : Nat) : Int) ∧ c.toNat - 48 ≤ 9 := by
  unfold isDg at h
  simp only [Bool.and_eq_true, decide_eq_true_eq] at h
  rw [IntKind.wrap_u8]
  omega

set_option maxRecDepth 100000 in
set_option maxHeartbeats 3200000 in
theorem ReadDecimal_any (s : ByteArray) (w : World) (hs : s.size ≤ 1073741824) (ht : Tab w) : Calls Tryd.prog 60 #[.string s] w (RetN1 w s) := by
  have Hnone := Lib.hid (fun h => readN_none (s := s) h)
  have Hbad := Lib.hid (fun k hk h => readN_bad (s := s) k hk h)
  have Hval := Lib.hid (fun h1 h2 => readN_val (s := s) h1 h2)
  have Hbd := Lib.hid (fun h1 h2 => valN_bd (s := s) h1 h2)
  have HD := Lib.hid (fun n wx h0 h1 hx => Decimal_any n wx h0 h1 hx)
  have Ht := Lib.hid ht
  have hb0 := Below.refl w.heap.size w
  have HV := Lib.hid (show valN s = if (bodyN s).size < s.size then -(numVN (bodyN s).data.toList : Int) else numVN (bodyN s).data.toList from rfl)
  clear ht
  by_cases hh : s.data.toList.head? = some 45
  · obtain ⟨h0, he⟩ := head_sizeN hh
    have HT := Lib.hid (show bodyN s = s.extract 1 s.size by unfold bodyN; rw [if_pos hh])
    have hb : ((s[0].toNat : Int) == 45) = true := by rw [he]; rfl
    have hz0 := tail_size1 s
    have hpos : (0 : Int) < (s.size : Int) := by omega
    obtain ⟨T, hT⟩ : ∃ T, s.extract 1 s.size = T := ⟨_, rfl⟩
    rw [HT.out, hT] at Hbad Hbd Hval Hnone HV
    rw [hT] at hz0
    have hlt : T.size < s.size := by omega
    rw [if_pos hlt] at HV
    have hlt' : (T.size : Int) < (s.size : Int) := by omega
    clear HT he hh hz0
    by_cases t0 : T.size = 0
    · have hn := Hnone.out (.inl t0)
      have t0' : ((T.size : Int) == 0) = true := by rw [t0]; rfl
      go_enter Tryd.func60, Tryd.ntmps60
      go_wp2_with fail
      go_ret2
      unfold RetN1; rw [hn]; exact ⟨rfl, hb0⟩
    · have t0' : ((T.size : Int) == 0) = false := by rw [beq_eq_false_iff_ne]; omega
      by_cases t1 : 18 < T.size
      · have hn := Hnone.out (.inr t1)
        have t1' : (18 : Int) < (T.size : Int) := by omega
        go_enter Tryd.func60, Tryd.ntmps60
        go_wp2_with fail
        go_ret2
        unfold RetN1; rw [hn]; exact ⟨rfl, hb0⟩
      · have t1' : ¬ (18 : Int) < (T.size : Int) := by omega
        have hno : ¬(T.size = 0 ∨ 18 < T.size) := by omega
        have Hval2 := Lib.hid (Hval.out hno)
        have Hbd2 := Lib.hid (Hbd.out hno)
        clear Hval Hbd Hnone
        go_enter Tryd.func60, Tryd.ntmps60
        go_wp2_with fail
        go_loop [5, 28] (fun n i => ∃ k : Nat, k ≤ T.size ∧ i = .int .i64 (k : Int) ∧ n = .int .i64 (numVN (T.data.toList.take k) : Int) ∧ ∀ c ∈ T.data.toList.take k, isDg c = true) (fun _ i => T.size - (intOf i).toNat)
        case atStart => exact ⟨0, Nat.zero_le _, rfl, rfl, by simp⟩
        case round =>
          obtain ⟨k, hk, rfl, rfl, hall⟩ := hrel
          have Hall := Lib.hid hall
          by_cases hlk : k < T.size
          · have hlk' : (k : Int) < (T.size : Int) := by omega
            have HDg := Lib.hid (fun wx => isDigitN_any (T)[k] wx)
            have HK := Lib.hid (take_at T k hlk)
            have hN : numVN (T.data.toList.take k) < 100000000000000000 := by
              have h := numVN_lt _ hall
              have h3 : (10 : Nat) ^ (T.data.toList.take k).length ≤ 10 ^ 17 := Nat.pow_le_pow_right (by omega) (by rw [List.length_take]; omega)
              have h4 : (10 : Nat) ^ 17 = 100000000000000000 := by decide
              omega
            have Hsn := Lib.hid (fun (h : isDg (T)[k] = true) => (show ∀ c ∈ T.data.toList.take (k + 1), isDg c = true from fun c hc => by
              rw [List.take_succ_eq_append_getElem (by simpa using hlk)] at hc
              rcases List.mem_append.1 hc with h1 | h1
              · exact Hall.out c h1
              · rw [List.mem_singleton.1 h1]; exact h))
            generalize numVN (T.data.toList.take k) = N at *
            clear hall
            cases hdg : isDg (T)[k] with
            | false =>
              have hn := Hbad.out k hlk hdg
              rw [hdg] at HDg
              clear hdg
              go_wp2_with fail
              refine (HDg.out _).mono ?_; rintro e w1 ⟨rfl, rfl⟩
              go_wp2_with fail
              go_ret2
              unfold RetN1; rw [hn]; exact ⟨rfl, hb0⟩
            | true =>
              obtain ⟨hw, h9⟩ := dig_wrap (T)[k] hdg
              have Hs2 := Lib.hid (Hsn.out hdg)
              rw [hdg] at HDg
              clear hdg Hsn
              generalize (T)[k].toNat - 48 = d at *
              go_wp2_with fail
              refine (HDg.out _).mono ?_; rintro e w1 ⟨rfl, rfl⟩
              go_wp2_with fail
              go_round
              case rel => exact ⟨k + 1, by omega, by go_num, by rw [HK.out]; go_num, Hs2.out⟩
              case measure => simp [intOf]; omega
          · have hd : T.data.toList.take k = T.data.toList := List.take_of_length_le (by simp; omega)
            rw [hd] at hall
            rw [hd]
            have hM := Hbd2.out hall
            have HR := Lib.hid (Hval2.out hall)
            generalize numVN T.data.toList = M at *
            rw [HV.out] at HR
            have hlk' : (T.size : Int) ≤ (k : Int) := by omega
            have HDx := Lib.hid (HD.out (-(M : Int)) w (by omega) (by omega) Ht.out)
            have hwn : IntKind.i64.wrap (-(M : Int)) = -(M : Int) := IntWalk.i64_in _ (by omega)
            clear hall hd Hall
            by_cases hq : decS (-(M : Int)) = s
            · have HQ := Lib.hid (show readN s = some (-(M : Int)) by rw [HR.out, if_pos hq])
              rw [hq] at HDx
              clear hq HR
              go_wp2_with fail
              refine HDx.out.mono ?_; rintro e w5 ⟨rfl, hb5⟩
              go_wp2_with fail
              go_ret2
              unfold RetN1; rw [HQ.out]; exact ⟨rfl, hb5⟩
            · have HQ := Lib.hid (show readN s = none by rw [HR.out, if_neg hq])
              have hbn : ((decS (-(M : Int))).toList != s.toList) = true := bne_iff_ne.2 fun e => hq (ba_inj e)
              have hbq : ((decS (-(M : Int))).toList == s.toList) = false := beq_eq_false_iff_ne.2 fun e => hq (ba_inj e)
              generalize decS (-(M : Int)) = Y at *
              clear hq HR
              go_wp2_with fail
              refine HDx.out.mono ?_; rintro e w5 ⟨rfl, hb5⟩
              go_wp2_with fail
              go_ret2
              unfold RetN1; rw [HQ.out]; exact ⟨rfl, hb5⟩
  · have HT := Lib.hid (show bodyN s = s by unfold bodyN; rw [if_neg hh])
    rw [HT.out] at Hbad Hbd Hval Hnone HV
    rw [if_neg (Nat.lt_irrefl _)] at HV
    clear HT
    by_cases t0 : s.size = 0
    · have hn := Hnone.out (.inl t0)
      have t0' : ((s.size : Int) == 0) = true := by rw [t0]; rfl
      have hp0 : ¬ (0 : Int) < (s.size : Int) := by omega
      go_enter Tryd.func60, Tryd.ntmps60
      go_wp2_with fail
      go_ret2
      unfold RetN1; rw [hn]; exact ⟨rfl, hb0⟩
    · have t0' : ((s.size : Int) == 0) = false := by rw [beq_eq_false_iff_ne]; omega
      have h0 : 0 < s.size := by omega
      have hpos : (0 : Int) < (s.size : Int) := by omega
      have hb : ((s[0].toNat : Int) == 45) = false := by
        rw [beq_eq_false_iff_ne]; intro h
        exact head_not hh h0 (UInt8.toNat_inj.1 (by have : (45 : UInt8).toNat = 45 := rfl
                                                    omega))
      by_cases t1 : 18 < s.size
      · have hn := Hnone.out (.inr t1)
        have t1' : (18 : Int) < (s.size : Int) := by omega
        go_enter Tryd.func60, Tryd.ntmps60
        go_wp2_with fail
        go_ret2
        unfold RetN1; rw [hn]; exact ⟨rfl, hb0⟩
      · have t1' : ¬ (18 : Int) < (s.size : Int) := by omega
        have hno : ¬(s.size = 0 ∨ 18 < s.size) := by omega
        have Hval2 := Lib.hid (Hval.out hno)
        have Hbd2 := Lib.hid (Hbd.out hno)
        clear Hval Hbd Hnone
        go_enter Tryd.func60, Tryd.ntmps60
        go_wp2_with fail
        go_loop [5, 28] (fun n i => ∃ k : Nat, k ≤ s.size ∧ i = .int .i64 (k : Int) ∧ n = .int .i64 (numVN (s.data.toList.take k) : Int) ∧ ∀ c ∈ s.data.toList.take k, isDg c = true) (fun _ i => s.size - (intOf i).toNat)
        case atStart => exact ⟨0, Nat.zero_le _, rfl, rfl, by simp⟩
        case round =>
          obtain ⟨k, hk, rfl, rfl, hall⟩ := hrel
          have Hall := Lib.hid hall
          by_cases hlk : k < s.size
          · have hlk' : (k : Int) < (s.size : Int) := by omega
            have HDg := Lib.hid (fun wx => isDigitN_any (s)[k] wx)
            have HK := Lib.hid (take_at s k hlk)
            have hN : numVN (s.data.toList.take k) < 100000000000000000 := by
              have h := numVN_lt _ hall
              have h3 : (10 : Nat) ^ (s.data.toList.take k).length ≤ 10 ^ 17 := Nat.pow_le_pow_right (by omega) (by rw [List.length_take]; omega)
              have h4 : (10 : Nat) ^ 17 = 100000000000000000 := by decide
              omega
            have Hsn := Lib.hid (fun (h : isDg (s)[k] = true) => (show ∀ c ∈ s.data.toList.take (k + 1), isDg c = true from fun c hc => by
              rw [List.take_succ_eq_append_getElem (by simpa using hlk)] at hc
              rcases List.mem_append.1 hc with h1 | h1
              · exact Hall.out c h1
              · rw [List.mem_singleton.1 h1]; exact h))
            generalize numVN (s.data.toList.take k) = N at *
            clear hall
            cases hdg : isDg (s)[k] with
            | false =>
              have hn := Hbad.out k hlk hdg
              rw [hdg] at HDg
              clear hdg
              go_wp2_with fail
              refine (HDg.out _).mono ?_; rintro e w1 ⟨rfl, rfl⟩
              go_wp2_with fail
              go_ret2
              unfold RetN1; rw [hn]; exact ⟨rfl, hb0⟩
            | true =>
              obtain ⟨hw, h9⟩ := dig_wrap (s)[k] hdg
              have Hs2 := Lib.hid (Hsn.out hdg)
              rw [hdg] at HDg
              clear hdg Hsn
              generalize (s)[k].toNat - 48 = d at *
              go_wp2_with fail
              refine (HDg.out _).mono ?_; rintro e w1 ⟨rfl, rfl⟩
              go_wp2_with fail
              go_round
              case rel => exact ⟨k + 1, by omega, by go_num, by rw [HK.out]; go_num, Hs2.out⟩
              case measure => simp [intOf]; omega
          · have hd : s.data.toList.take k = s.data.toList := List.take_of_length_le (by simp; omega)
            rw [hd] at hall
            rw [hd]
            have hM := Hbd2.out hall
            have HR := Lib.hid (Hval2.out hall)
            generalize numVN s.data.toList = M at *
            rw [HV.out] at HR
            have hlk' : (s.size : Int) ≤ (k : Int) := by omega
            have HDx := Lib.hid (HD.out ((M : Int)) w (by omega) (by omega) Ht.out)
            have hwn : IntKind.i64.wrap ((M : Int)) = (M : Int) := IntWalk.i64_in _ (by omega)
            clear hall hd Hall
            by_cases hq : decS ((M : Int)) = s
            · have HQ := Lib.hid (show readN s = some ((M : Int)) by rw [HR.out, if_pos hq])
              rw [hq] at HDx
              clear hq HR
              go_wp2_with fail
              refine HDx.out.mono ?_; rintro e w5 ⟨rfl, hb5⟩
              go_wp2_with fail
              go_ret2
              unfold RetN1; rw [HQ.out]; exact ⟨rfl, hb5⟩
            · have HQ := Lib.hid (show readN s = none by rw [HR.out, if_neg hq])
              have hbn : ((decS ((M : Int))).toList != s.toList) = true := bne_iff_ne.2 fun e => hq (ba_inj e)
              have hbq : ((decS ((M : Int))).toList == s.toList) = false := beq_eq_false_iff_ne.2 fun e => hq (ba_inj e)
              generalize decS ((M : Int)) = Y at *
              clear hq HR
              go_wp2_with fail
              refine HDx.out.mono ?_; rintro e w5 ⟨rfl, hb5⟩
              go_wp2_with fail
              go_ret2
              unfold RetN1; rw [HQ.out]; exact ⟨rfl, hb5⟩
end Go.Proofs.YtmheijnckmlbnaaDoor
/- Numbers read from texts, part 4 (printed by gen_rn4.py): l01Number (reference). -/
namespace Go.Proofs.YtmheijnckmlbnaaDoor
open Go.RowKit Go.Joins

theorem ne_some {s : ByteArray} (h : 0 < s.size) : s.toList.isEmpty = false := by
  rw [ByteArray.toList_eq, List.isEmpty_eq_false_iff]
  intro e
  have h1 : s.data.toList.length = s.size := by simp
  rw [e] at h1
  simp at h1; omega
theorem ne_none {s : ByteArray} (h : s.size = 0) : s.toList.isEmpty = true := by
  rw [ByteArray.toList_eq, List.isEmpty_iff]
  exact List.eq_nil_of_length_eq_zero (by simpa using h)

set_option maxRecDepth 100000 in
set_option maxHeartbeats 3200000 in
theorem l01Number_any (s : ByteArray) (w : World) (hs : s.size ≤ 1073741824) : Calls Tryd.prog 92 #[.string s] w (RetN1 w s) := by
  have Hnone := Lib.hid (fun h => readN_none (s := s) h)
  have Hbad := Lib.hid (fun k hk h => readN_bad (s := s) k hk h)
  have Hval := Lib.hid (fun h1 h2 => readN_val (s := s) h1 h2)
  have Hbd := Lib.hid (fun h1 h2 => valN_bd (s := s) h1 h2)
  have HD := Lib.hid (fun n wx h0 h1 => l01Dec_any n wx h0 h1)
  have hb0 := Below.refl w.heap.size w
  have HV := Lib.hid (show valN s = if (bodyN s).size < s.size then -(numVN (bodyN s).data.toList : Int) else numVN (bodyN s).data.toList from rfl)
  by_cases hh : s.data.toList.head? = some 45
  · obtain ⟨h0, he⟩ := head_sizeN hh
    have HT := Lib.hid (show bodyN s = s.extract 1 s.size by unfold bodyN; rw [if_pos hh])
    have hb : ((s[0].toNat : Int) == 45) = true := by rw [he]; rfl
    have hz0 := tail_size1 s
    have hpos : (0 : Int) < (s.size : Int) := by omega
    have hne := ne_some h0
    obtain ⟨T, hT⟩ : ∃ T, s.extract 1 s.size = T := ⟨_, rfl⟩
    rw [HT.out, hT] at Hbad Hbd Hval Hnone HV
    rw [hT] at hz0
    have hlt : T.size < s.size := by omega
    rw [if_pos hlt] at HV
    have hlt' : (T.size : Int) < (s.size : Int) := by omega
    clear HT he hh hz0
    by_cases t0 : T.size = 0
    · have hn := Hnone.out (.inl t0)
      have t0' : (T.size : Int) < 1 := by omega
      go_enter Tryd.func92, Tryd.ntmps92
      go_wp2_with fail
      go_ret2
      unfold RetN1; rw [hn]; exact ⟨rfl, hb0⟩
    · have t0' : ¬ (T.size : Int) < 1 := by omega
      by_cases t1 : 18 < T.size
      · have hn := Hnone.out (.inr t1)
        have t1' : (18 : Int) < (T.size : Int) := by omega
        go_enter Tryd.func92, Tryd.ntmps92
        go_wp2_with fail
        go_ret2
        unfold RetN1; rw [hn]; exact ⟨rfl, hb0⟩
      · have t1' : ¬ (18 : Int) < (T.size : Int) := by omega
        have hno : ¬(T.size = 0 ∨ 18 < T.size) := by omega
        have Hval2 := Lib.hid (Hval.out hno)
        have Hbd2 := Lib.hid (Hbd.out hno)
        clear Hval Hbd Hnone
        go_enter Tryd.func92, Tryd.ntmps92
        go_wp2_with fail
        go_loop [5, 6] (fun n i => ∃ k : Nat, k ≤ T.size ∧ i = .int .i64 (k : Int) ∧ n = .int .i64 (numVN (T.data.toList.take k) : Int) ∧ ∀ c ∈ T.data.toList.take k, isDg c = true) (fun _ i => T.size - (intOf i).toNat)
        case atStart => exact ⟨0, Nat.zero_le _, rfl, rfl, by simp⟩
        case round =>
          obtain ⟨k, hk, rfl, rfl, hall⟩ := hrel
          have Hall := Lib.hid hall
          by_cases hlk : k < T.size
          · have hlk' : (k : Int) < (T.size : Int) := by omega
            have HDg := Lib.hid (fun wx => l01DigitN_any (T)[k] wx)
            have HK := Lib.hid (take_at T k hlk)
            have hN : numVN (T.data.toList.take k) < 100000000000000000 := by
              have h := numVN_lt _ hall
              have h3 : (10 : Nat) ^ (T.data.toList.take k).length ≤ 10 ^ 17 := Nat.pow_le_pow_right (by omega) (by rw [List.length_take]; omega)
              have h4 : (10 : Nat) ^ 17 = 100000000000000000 := by decide
              omega
            have Hsn := Lib.hid (fun (h : isDg (T)[k] = true) => (show ∀ c ∈ T.data.toList.take (k + 1), isDg c = true from fun c hc => by
              rw [List.take_succ_eq_append_getElem (by simpa using hlk)] at hc
              rcases List.mem_append.1 hc with h1 | h1
              · exact Hall.out c h1
              · rw [List.mem_singleton.1 h1]; exact h))
            generalize numVN (T.data.toList.take k) = N at *
            clear hall
            cases hdg : isDg (T)[k] with
            | false =>
              have hn := Hbad.out k hlk hdg
              rw [hdg] at HDg
              clear hdg
              go_wp2_with fail
              refine (HDg.out _).mono ?_; rintro e w1 ⟨rfl, rfl⟩
              go_wp2_with fail
              go_ret2
              unfold RetN1; rw [hn]; exact ⟨rfl, hb0⟩
            | true =>
              obtain ⟨hw, h9⟩ := dig_wrap (T)[k] hdg
              have Hs2 := Lib.hid (Hsn.out hdg)
              rw [hdg] at HDg
              clear hdg Hsn
              generalize (T)[k].toNat - 48 = d at *
              go_wp2_with fail
              refine (HDg.out _).mono ?_; rintro e w1 ⟨rfl, rfl⟩
              go_wp2_with fail
              go_round
              case rel => exact ⟨k + 1, by omega, by go_num, by rw [HK.out]; go_num, Hs2.out⟩
              case measure => simp [intOf]; omega
          · have hd : T.data.toList.take k = T.data.toList := List.take_of_length_le (by simp; omega)
            rw [hd] at hall
            rw [hd]
            have hM := Hbd2.out hall
            have HR := Lib.hid (Hval2.out hall)
            generalize numVN T.data.toList = M at *
            rw [HV.out] at HR
            have hlk' : (T.size : Int) ≤ (k : Int) := by omega
            have HDx := Lib.hid (HD.out (-(M : Int)) w (by omega) (by omega))
            have hwn : IntKind.i64.wrap (-(M : Int)) = -(M : Int) := IntWalk.i64_in _ (by omega)
            clear hall hd Hall
            by_cases hq : decS (-(M : Int)) = s
            · have HQ := Lib.hid (show readN s = some (-(M : Int)) by rw [HR.out, if_pos hq])
              rw [hq] at HDx
              clear hq HR
              go_wp2_with fail
              refine HDx.out.mono ?_; rintro e w5 ⟨rfl, hb5⟩
              go_wp2_with fail
              go_ret2
              unfold RetN1; rw [HQ.out]; exact ⟨rfl, hb5⟩
            · have HQ := Lib.hid (show readN s = none by rw [HR.out, if_neg hq])
              have hbn : ((decS (-(M : Int))).toList != s.toList) = true := bne_iff_ne.2 fun e => hq (ba_inj e)
              have hbq : ((decS (-(M : Int))).toList == s.toList) = false := beq_eq_false_iff_ne.2 fun e => hq (ba_inj e)
              generalize decS (-(M : Int)) = Y at *
              clear hq HR
              go_wp2_with fail
              refine HDx.out.mono ?_; rintro e w5 ⟨rfl, hb5⟩
              go_wp2_with fail
              go_ret2
              unfold RetN1; rw [HQ.out]; exact ⟨rfl, hb5⟩
  · have HT := Lib.hid (show bodyN s = s by unfold bodyN; rw [if_neg hh])
    rw [HT.out] at Hbad Hbd Hval Hnone HV
    rw [if_neg (Nat.lt_irrefl _)] at HV
    clear HT
    by_cases t0 : s.size = 0
    · have hn := Hnone.out (.inl t0)
      have t0' : (s.size : Int) < 1 := by omega
      have hne := ne_none t0
      go_enter Tryd.func92, Tryd.ntmps92
      go_wp2_with fail
      go_ret2
      unfold RetN1; rw [hn]; exact ⟨rfl, hb0⟩
    · have t0' : ¬ (s.size : Int) < 1 := by omega
      have h0 : 0 < s.size := by omega
      have hpos : (0 : Int) < (s.size : Int) := by omega
      have hne := ne_some h0
      have hb : ((s[0].toNat : Int) == 45) = false := by
        rw [beq_eq_false_iff_ne]; intro h
        exact head_not hh h0 (UInt8.toNat_inj.1 (by have : (45 : UInt8).toNat = 45 := rfl
                                                    omega))
      by_cases t1 : 18 < s.size
      · have hn := Hnone.out (.inr t1)
        have t1' : (18 : Int) < (s.size : Int) := by omega
        go_enter Tryd.func92, Tryd.ntmps92
        go_wp2_with fail
        go_ret2
        unfold RetN1; rw [hn]; exact ⟨rfl, hb0⟩
      · have t1' : ¬ (18 : Int) < (s.size : Int) := by omega
        have hno : ¬(s.size = 0 ∨ 18 < s.size) := by omega
        have Hval2 := Lib.hid (Hval.out hno)
        have Hbd2 := Lib.hid (Hbd.out hno)
        clear Hval Hbd Hnone
        go_enter Tryd.func92, Tryd.ntmps92
        go_wp2_with fail
        go_loop [5, 6] (fun n i => ∃ k : Nat, k ≤ s.size ∧ i = .int .i64 (k : Int) ∧ n = .int .i64 (numVN (s.data.toList.take k) : Int) ∧ ∀ c ∈ s.data.toList.take k, isDg c = true) (fun _ i => s.size - (intOf i).toNat)
        case atStart => exact ⟨0, Nat.zero_le _, rfl, rfl, by simp⟩
        case round =>
          obtain ⟨k, hk, rfl, rfl, hall⟩ := hrel
          have Hall := Lib.hid hall
          by_cases hlk : k < s.size
          · have hlk' : (k : Int) < (s.size : Int) := by omega
            have HDg := Lib.hid (fun wx => l01DigitN_any (s)[k] wx)
            have HK := Lib.hid (take_at s k hlk)
            have hN : numVN (s.data.toList.take k) < 100000000000000000 := by
              have h := numVN_lt _ hall
              have h3 : (10 : Nat) ^ (s.data.toList.take k).length ≤ 10 ^ 17 := Nat.pow_le_pow_right (by omega) (by rw [List.length_take]; omega)
              have h4 : (10 : Nat) ^ 17 = 100000000000000000 := by decide
              omega
            have Hsn := Lib.hid (fun (h : isDg (s)[k] = true) => (show ∀ c ∈ s.data.toList.take (k + 1), isDg c = true from fun c hc => by
              rw [List.take_succ_eq_append_getElem (by simpa using hlk)] at hc
              rcases List.mem_append.1 hc with h1 | h1
              · exact Hall.out c h1
              · rw [List.mem_singleton.1 h1]; exact h))
            generalize numVN (s.data.toList.take k) = N at *
            clear hall
            cases hdg : isDg (s)[k] with
            | false =>
              have hn := Hbad.out k hlk hdg
              rw [hdg] at HDg
              clear hdg
              go_wp2_with fail
              refine (HDg.out _).mono ?_; rintro e w1 ⟨rfl, rfl⟩
              go_wp2_with fail
              go_ret2
              unfold RetN1; rw [hn]; exact ⟨rfl, hb0⟩
            | true =>
              obtain ⟨hw, h9⟩ := dig_wrap (s)[k] hdg
              have Hs2 := Lib.hid (Hsn.out hdg)
              rw [hdg] at HDg
              clear hdg Hsn
              generalize (s)[k].toNat - 48 = d at *
              go_wp2_with fail
              refine (HDg.out _).mono ?_; rintro e w1 ⟨rfl, rfl⟩
              go_wp2_with fail
              go_round
              case rel => exact ⟨k + 1, by omega, by go_num, by rw [HK.out]; go_num, Hs2.out⟩
              case measure => simp [intOf]; omega
          · have hd : s.data.toList.take k = s.data.toList := List.take_of_length_le (by simp; omega)
            rw [hd] at hall
            rw [hd]
            have hM := Hbd2.out hall
            have HR := Lib.hid (Hval2.out hall)
            generalize numVN s.data.toList = M at *
            rw [HV.out] at HR
            have hlk' : (s.size : Int) ≤ (k : Int) := by omega
            have HDx := Lib.hid (HD.out ((M : Int)) w (by omega) (by omega))
            have hwn : IntKind.i64.wrap ((M : Int)) = (M : Int) := IntWalk.i64_in _ (by omega)
            clear hall hd Hall
            by_cases hq : decS ((M : Int)) = s
            · have HQ := Lib.hid (show readN s = some ((M : Int)) by rw [HR.out, if_pos hq])
              rw [hq] at HDx
              clear hq HR
              go_wp2_with fail
              refine HDx.out.mono ?_; rintro e w5 ⟨rfl, hb5⟩
              go_wp2_with fail
              go_ret2
              unfold RetN1; rw [HQ.out]; exact ⟨rfl, hb5⟩
            · have HQ := Lib.hid (show readN s = none by rw [HR.out, if_neg hq])
              have hbn : ((decS ((M : Int))).toList != s.toList) = true := bne_iff_ne.2 fun e => hq (ba_inj e)
              have hbq : ((decS ((M : Int))).toList == s.toList) = false := beq_eq_false_iff_ne.2 fun e => hq (ba_inj e)
              generalize decS ((M : Int)) = Y at *
              clear hq HR
              go_wp2_with fail
              refine HDx.out.mono ?_; rintro e w5 ⟨rfl, hb5⟩
              go_wp2_with fail
              go_ret2
              unfold RetN1; rw [HQ.out]; exact ⟨rfl, hb5⟩
end Go.Proofs.YtmheijnckmlbnaaDoor
/- Texts, read: cut at two bytes; the lines of a text (textLines). -/
namespace Go.Proofs.YtmheijnckmlbnaaDoor
open Go.RowKit Go.Joins

def hit2 (c : UInt8) (s : ByteArray) (i : Nat) : Bool := (s.data[i]? == some c) && (s.data[i + 1]? == some c)
/-- the first place of two bytes c; the text's size if there is none -/
def fnd2 (c : UInt8) (s : ByteArray) : Nat := (List.range s.size).findIdx (hit2 c s)
theorem fnd2_le (c : UInt8) (s : ByteArray) : fnd2 c s ≤ s.size := by
  have : fnd2 c s ≤ (List.range s.size).length := List.findIdx_le_length
  simpa using this
theorem hit2_iff (c : UInt8) (s : ByteArray) (i : Nat) : hit2 c s i = true ↔ ∃ h : i + 1 < s.size, s[i] = c ∧ s[i + 1] = c := by
  unfold hit2
  simp only [Bool.and_eq_true, beq_iff_eq]
  constructor
  · rintro ⟨h1, h2⟩
    obtain ⟨q1, e1⟩ := Array.getElem?_eq_some_iff.1 h1
    obtain ⟨q2, e2⟩ := Array.getElem?_eq_some_iff.1 h2
    exact ⟨q2, e1, e2⟩
  · rintro ⟨h, e1, e2⟩
    exact ⟨Array.getElem?_eq_some_iff.2 ⟨Nat.lt_of_succ_lt h, e1⟩, Array.getElem?_eq_some_iff.2 ⟨h, e2⟩⟩
theorem fnd2_hit {c : UInt8} {s : ByteArray} (h : fnd2 c s < s.size) : hit2 c s (fnd2 c s) = true := by
  have := List.findIdx_getElem (p := hit2 c s) (xs := List.range s.size) (w := by show fnd2 c s < _; simpa using h)
  simpa [fnd2] using this
theorem fnd2_no {c : UInt8} {s : ByteArray} {i : Nat} (h : i < fnd2 c s) : hit2 c s i = false := by
  have h0 := fnd2_le c s
  have := List.not_of_lt_findIdx (p := hit2 c s) (xs := List.range s.size) (i := i) h
  simpa using this
theorem fnd2_eq {c : UInt8} {s : ByteArray} {k : Nat} (hk : k ≤ fnd2 c s) (h : hit2 c s k = true) : fnd2 c s = k := by
  refine Nat.le_antisymm (Nat.le_of_not_lt fun hl => ?_) hk
  rw [fnd2_no hl] at h; cases h
theorem fnd2_ne {c : UInt8} {s : ByteArray} {k : Nat} (hk : k ≤ fnd2 c s) (hlt : k < s.size) (h : hit2 c s k = false) : k + 1 ≤ fnd2 c s := by
  rcases Nat.lt_or_ge k (fnd2 c s) with hl | hg
  · exact hl
  · exfalso
    have he : fnd2 c s = k := Nat.le_antisymm hg hk
    have := fnd2_hit (c := c) (s := s) (by omega)
    rw [he, h] at this; cases this
theorem fnd2_end {c : UInt8} {s : ByteArray} {k : Nat} (hk : k ≤ fnd2 c s) (h : s.size < k + 2) : fnd2 c s = s.size := by
  have h0 := fnd2_le c s
  rcases Nat.lt_or_ge (fnd2 c s) s.size with hl | hg
  · obtain ⟨q, _⟩ := (hit2_iff _ _ _).1 (fnd2_hit hl)
    omega
  · omega
theorem two_bytes (s : ByteArray) (k : Nat) (hlt : k + 1 < s.size) : s.extract k (k + 2) = ⟨#[s[k], s[k + 1]]⟩ := by
  have h1 := one_byte s k (by omega)
  have h2 := one_byte s (k + 1) hlt
  have : s.extract k (k + 2) = s.extract k (k + 1) ++ s.extract (k + 1) (k + 2) := by
    apply ByteArray.ext
    simp only [ByteArray.data_append, ByteArray.data_extract]
    rw [Array.extract_append_extract, show min k (k + 1) = k by omega, show max (k + 1) (k + 2) = k + 2 by omega]
  rw [this, h1, h2]; rfl
def RetC2 (w : World) (c : UInt8) (s : ByteArray) (e : Ending) (w' : World) : Prop :=
  (if fnd2 c s < s.size then e = .returned (.tuple #[.string (s.extract 0 (fnd2 c s)), .string (s.extract (fnd2 c s + 2) s.size), .bool true]) else e = .returned (.tuple #[.string s, .string ⟨#[]⟩, .bool false])) ∧ ∃ n, w' = w.drewN n
theorem RetC2.yes {w w' : World} {c : UInt8} {s : ByteArray} {k : Nat} (h : fnd2 c s = k) (hk : k < s.size) (hw : ∃ n, w' = w.drewN n) : RetC2 w c s (.returned (.tuple #[.string (s.extract 0 k), .string (s.extract (k + 2) s.size), .bool true])) w' := by
  subst h; exact ⟨by rw [if_pos hk], hw⟩
theorem RetC2.no {w w' : World} {c : UInt8} {s : ByteArray} (h : fnd2 c s = s.size) (hw : ∃ n, w' = w.drewN n) : RetC2 w c s (.returned (.tuple #[.string s, .string ⟨#[]⟩, .bool false])) w' :=
  ⟨by rw [if_neg (by omega)], hw⟩

set_option maxRecDepth 100000 in
set_option maxHeartbeats 1000000 in
theorem cut2_any (s : ByteArray) (c : UInt8) (w : World) (hs : s.size ≤ 1073741824) : Calls Tryd.prog 59 #[.string s, .string ⟨#[c, c]⟩] w (RetC2 w c s) := by
  have h1 : (⟨#[c, c]⟩ : ByteArray).size = 2 := rfl
  go_enter Tryd.func59, Tryd.ntmps59
  go_wp2_with fail
  go_loop [7] (fun i => ∃ k : Nat, k ≤ fnd2 c s ∧ i = .int .i64 k) (fun i => s.size - (intOf i).toNat)
  case atStart => exact ⟨0, Nat.zero_le _, rfl⟩
  case round =>
    obtain ⟨k, hk, rfl⟩ := hrel
    have hfl := fnd2_le c s
    by_cases hlt : k + 1 < s.size
    · have hsl := two_bytes s k hlt
      have hle : (k : Int) + 2 ≤ (s.size : Int) := by omega
      cases he : hit2 c s k with
      | true =>
        have hf := Lib.hid (fnd2_eq hk he)
        obtain ⟨_, e1, e2⟩ := (hit2_iff _ _ _).1 he
        rw [e1, e2] at hsl
        clear he e1 e2
        go_wp2_with fail
        go_quiet (fail)
        go_wp2_with fail
        go_ret3
        exact RetC2.yes hf.out (by omega) ⟨_, rfl⟩
      | false =>
        have hf := Lib.hid (fnd2_ne hk (by omega) he)
        have hb : ((⟨#[s[k], s[k + 1]]⟩ : ByteArray).toList == [c, c]) = false := by
          rw [beq_eq_false_iff_ne]
          intro h
          rw [ByteArray.toList_eq] at h
          simp only [List.cons.injEq, and_true] at h
          rw [(hit2_iff c s k).2 ⟨hlt, h.1, h.2⟩] at he
          cases he
        generalize (⟨#[s[k], s[k + 1]]⟩ : ByteArray) = o at *
        clear he
        go_wp2_with fail
        go_round
        case rel => exact ⟨k + 1, hf.out, by go_num⟩
        case measure => simp [intOf]; omega
    · have hf := Lib.hid (fnd2_end hk (by omega))
      have hle : ¬ (k : Int) + 2 ≤ (s.size : Int) := by omega
      go_wp2_with fail
      go_ret3
      exact RetC2.no hf.out ⟨0, rfl⟩

theorem linesB_nil (c : UInt8) (s : ByteArray) (h : s.size = 0) : linesB c s = some [] := by
  have hs : s = ⟨#[]⟩ := by
    obtain ⟨⟨l⟩⟩ := s
    have : l = [] := List.eq_nil_of_length_eq_zero h
    rw [this]
  have := fnd_le c s
  unfold linesB
  rw [splitB_no (by omega), hs]
  rfl
theorem linesB_yes {c : UInt8} {s : ByteArray} (h : fnd c s < s.size) : linesB c s = (linesB c (s.extract (fnd c s + 1) s.size)).map (s.extract 0 (fnd c s) :: ·) := by
  have hne := splitB_ne c (s.extract (fnd c s + 1) s.size)
  unfold linesB
  rw [splitB_yes h]
  generalize splitB c (s.extract (fnd c s + 1) s.size) = L at *
  obtain ⟨x, l, rfl⟩ := List.exists_cons_of_ne_nil hne
  rw [List.dropLast_cons_of_ne_nil (by simp), List.getLast?_cons_cons]
  split <;> rfl
theorem linesB_no {c : UInt8} {s : ByteArray} (h : s.size ≤ fnd c s) (h0 : s.size ≠ 0) : linesB c s = none := by
  unfold linesB
  rw [splitB_no h, if_neg]
  intro e
  have h1 : s = ⟨#[]⟩ := Option.some.inj e
  rw [h1] at h0
  exact h0 rfl
end Go.Proofs.YtmheijnckmlbnaaDoor
/- Texts, read, part 2: textLines (program). -/
namespace Go.Proofs.YtmheijnckmlbnaaDoor
open Go.RowKit Go.Joins

theorem linesB_le {c : UInt8} {s : ByteArray} {l : List ByteArray} (h : linesB c s = some l) : l.length ≤ s.size := by
  have := splitB_len c s.size s (Nat.le_refl _)
  unfold linesB at h
  split at h
  · rw [← Option.some.inj h, List.length_dropLast]; omega
  · cases h
theorem splitB_mem (c : UInt8) : ∀ (n : Nat) (s : ByteArray), s.size ≤ n → ∀ z ∈ splitB c s, z.size ≤ s.size := by
  intro n
  induction n with
  | zero =>
    intro s h z hz
    have := fnd_le c s
    rw [splitB_no (by omega)] at hz
    rw [List.mem_singleton.1 hz]; exact Nat.le_refl _
  | succ n ih =>
    intro s h z hz
    rcases Nat.lt_or_ge (fnd c s) s.size with h1 | h1
    · rw [splitB_yes h1] at hz
      rcases List.mem_cons.1 hz with rfl | hz
      · rw [ByteArray.size_extract]; omega
      · have hs := tail_sizeS s (fnd c s + 1)
        have := ih _ (by omega) z hz
        omega
    · rw [splitB_no h1] at hz
      rw [List.mem_singleton.1 hz]; exact Nat.le_refl _
theorem linesB_mem {c : UInt8} {s : ByteArray} {l : List ByteArray} (h : linesB c s = some l) : ∀ z ∈ l, z.size ≤ s.size := by
  unfold linesB at h
  split at h
  · intro z hz
    rw [← Option.some.inj h] at hz
    exact splitB_mem c s.size s (Nat.le_refl _) z ((List.dropLast_subset _) hz)
  · cases h
def RetTl (w : World) (r : Option (List ByteArray)) (e : Ending) (w' : World) : Prop :=
  ∃ v, e = .returned (.tuple #[v, .bool r.isSome]) ∧ (∀ l, r = some l → w'.ownsRow w.heap.size 9 1 v l.length (l.map Value.string)) ∧ Below w.heap.size w w'
theorem RetTl.none {w w' : World} {r : Option (List ByteArray)} {v : Value} (h : r = none) (hb : Below w.heap.size w w') : RetTl w r (.returned (.tuple #[v, .bool false])) w' := by
  subst h; exact ⟨v, rfl, (fun l h => by cases h), hb⟩
theorem RetTl.some {w w' : World} {r : Option (List ByteArray)} {v : Value} {l : List ByteArray} (h : r = some l) (ho : w'.ownsRow w.heap.size 9 1 v l.length (l.map Value.string)) (hb : Below w.heap.size w w') : RetTl w r (.returned (.tuple #[v, .bool true])) w' := by
  subst h; exact ⟨v, rfl, (fun l' h' => by rw [← Option.some.inj h']; exact ho), hb⟩

set_option maxRecDepth 100000 in
set_option maxHeartbeats 1600000 in
theorem textLines_any (s : ByteArray) (w : World) (hs : s.size ≤ 1073741824) : Calls Tryd.prog 57 #[.string s] w (RetTl w (linesB 10 s)) := by
  have hle := Lib.hid (fun l h => linesB_le (c := 10) (s := s) (l := l) h)
  have hb0 := Lib.hid ((Below.refl w.heap.size w).alloc (Nat.le_refl _) (.cells #[] 9))
  have ho0 := Lib.hid (World.ownsRow_made (base := w.heap.size) (e := 9) (size := 1) w #[] 0 (Nat.le_refl _) (by simp [maxLen]) rfl)
  have Hmap := Lib.hid (show linesB 10 s = (linesB 10 s).map (([] : List ByteArray) ++ ·) by cases linesB 10 s <;> rfl)
  go_enter Tryd.func57, Tryd.ntmps57
  go_wp2_with fail
  go_loopw [0, 4] (fun l o wr => ∃ (ln : ByteArray) (out : List ByteArray), l = .string ln ∧ ln.size ≤ s.size ∧ out.length + ln.size ≤ s.size ∧ linesB 10 s = (linesB 10 ln).map (out ++ ·) ∧ wr.ownsRow w.heap.size 9 1 o out.length (out.map Value.string) ∧ Below w.heap.size w wr) (fun l _ _ => szV l)
  case atStart => exact ⟨s, [], rfl, Nat.le_refl _, by simp, Hmap.out, ho0.out, hb0.out⟩
  case round =>
    obtain ⟨ln, out, rfl, hz, hol, hsp, hown, hbl⟩ := hrel
    have HC := Lib.hid (fun wx => cut_any ln 10 wx (by omega))
    have hfl := fnd_le 10 ln
    have Hsp := Lib.hid hsp; clear hsp Hmap
    have Hown := Lib.hid hown
    have Hbl := Lib.hid hbl
    clear hown
    by_cases h0 : ln.size = 0
    · have hn := ne_none h0
      have hfin := Lib.hid (show linesB 10 s = some out by rw [Hsp.out, linesB_nil 10 ln h0]; simp)
      clear HC
      go_wp2_with fail
      go_ret2
      exact RetTl.some hfin.out Hown.out hbl
    · have hn := ne_some (s := ln) (by omega)
      by_cases hf : fnd 10 ln < ln.size
      · rw [decide_eq_true hf] at HC
        have hy := linesB_yes (c := 10) (s := ln) hf
        have Hz := Lib.hid (tail_sizeS ln (fnd 10 ln + 1))
        generalize fnd 10 ln = k at *
        generalize ln.extract 0 k = x at *
        generalize ln.extract (k + 1) ln.size = y at *
        have Hy := Lib.hid hy; clear hy
        go_wp2_with fail
        refine (HC.out _).mono ?_; rintro e w5 ⟨rfl, n5, hw5⟩
        have hb5 : Below w.heap.size w w5 := by rw [hw5]; exact below_drewN Hbl.out n5
        have ho5 := Hown.out.drewN n5
        rw [← hw5] at ho5
        have Hb5 := Lib.hid hb5
        have Ho5 := Lib.hid ho5
        have hz5 := hb5.size
        clear hw5 hb5 ho5 Hown Hbl HC hbl
        go_wp2_with (at_builtin; refine wpList_apd 57 9 _ 1 16 Tryd.underlying57 infoStr rfl (by omega) _ _ rfl rfl w.heap.size _ out.length _ rfl Ho5.out #[.string x] 1 1 rfl rfl (by simp [Value.oneCell']) (by simp [maxLen]; omega) (by omega) hz5 ?_; intro v7 w7 hown7 hg7; have Hb7 := Lib.hid (below_apd Hb5.out Ho5.out hg7 (Nat.le_refl _) hz5); have Ho7 := Lib.hid (own_snoc hown7); clear hown7 hg7)
        go_roundw
        case rel => exact ⟨y, out ++ [x], rfl, by have := Hz.out; omega, by rw [List.length_append]; simp; have := Hz.out; omega, by rw [Hsp.out, Hy.out, Option.map_map]; congr 1; funext l; simp, Ho7.out, Hb7.out⟩
        case measure => simp [szV]; have := Hz.out; omega
      · rw [decide_eq_false hf] at HC
        have hfin := Lib.hid (show linesB 10 s = none by rw [Hsp.out, linesB_no (by omega) h0]; rfl)
        have hb5 := Lib.hid (fun n => below_drewN Hbl.out n)
        go_wp2_with fail
        refine (HC.out _).mono ?_; rintro e w5 ⟨rfl, n5, rfl⟩
        go_wp2_with fail
        go_ret2
        exact RetTl.none hfin.out (hb5.out _)
end Go.Proofs.YtmheijnckmlbnaaDoor
/- Numbers read from texts, part 5: what a text that is a number cannot hold. -/
namespace Go.Proofs.YtmheijnckmlbnaaDoor

theorem readN_dec {r : ByteArray} {a : Int} (h : readN r = some a) : decS a = r := by
  unfold readN at h
  split at h
  · cases h
  · split at h
    · split at h
      · rename_i he
        rw [← Option.some.inj h]; exact he
      · cases h
    · cases h
theorem readN_none_of {r : ByteArray} (k : Nat) (hk : k < r.size) (h1 : isDg r[k] = false) (h2 : r[k] ≠ 45) : readN r = none := by
  by_cases hh : r.data.toList.head? = some 45
  · obtain ⟨h0, he⟩ := head_sizeN hh
    have hT : bodyN r = r.extract 1 r.size := by unfold bodyN; rw [if_pos hh]
    have hk0 : k ≠ 0 := by
      intro e; subst e; exact h2 he
    have hz : (bodyN r).size = r.size - 1 := by rw [hT, ByteArray.size_extract]; omega
    refine readN_bad (k - 1) (by omega) ?_
    have : (bodyN r)[k - 1]'(by omega) = r[k] := by
      simp only [hT]
      rw [ByteArray.getElem_extract]
      simp only [show 1 + (k - 1) = k by omega]
    rw [this]; exact h1
  · have hT : bodyN r = r := by unfold bodyN; rw [if_neg hh]
    refine readN_bad k (by rw [hT]; exact hk) ?_
    simp only [hT]; exact h1
theorem fnd_at (c : UInt8) (s : ByteArray) (h : fnd c s < s.size) : s[fnd c s] = c := by
  have := List.findIdx_getElem (p := (· == c)) (xs := s.data.toList) (w := by show fnd c s < s.data.toList.length; simpa using h)
  have hh : s.data.toList[fnd c s]'(by simpa using h) = c := by simpa [fnd] using this
  exact hh
end Go.Proofs.YtmheijnckmlbnaaDoor
/- Texts, read: plain laws and rows of texts of the call's own (moved out of Ld4 .. Ld7). -/
namespace Go.Proofs.YtmheijnckmlbnaaDoor
open Go.RowKit Go.Joins

theorem cut_back (s : ByteArray) (k : Nat) (hk : k < s.size) : s.extract 0 k ++ ⟨#[s[k]]⟩ ++ s.extract (k + 1) s.size = s := by
  have h1 := one_byte s k hk
  rw [← h1]
  apply ByteArray.ext
  simp only [ByteArray.data_append, ByteArray.data_extract]
  rw [Array.extract_append_extract, show min 0 k = 0 by omega, show max k (k + 1) = k + 1 by omega, Array.extract_append_extract, show min 0 (k + 1) = 0 by omega, show max (k + 1) s.size = s.size by omega]
  exact Array.extract_size
theorem splitB_one {c : UInt8} {s x : ByteArray} (h : splitB c s = [x]) : s = x := by
  rcases Nat.lt_or_ge (fnd c s) s.size with h1 | h1
  · rw [splitB_yes h1] at h
    injection h with _ h2
    exact absurd h2 (splitB_ne _ _)
  · rw [splitB_no h1] at h
    injection h
theorem splitB_cons {c : UInt8} {s x y : ByteArray} {l : List ByteArray} (h : splitB c s = x :: y :: l) : ∃ r, s = x ++ ⟨#[c]⟩ ++ r ∧ splitB c r = y :: l := by
  rcases Nat.lt_or_ge (fnd c s) s.size with h1 | h1
  · rw [splitB_yes h1] at h
    injection h with h2 h3
    refine ⟨_, ?_, h3⟩
    rw [← h2]
    have := cut_back s (fnd c s) h1
    rw [fnd_at c s h1] at this
    exact this.symm
  · rw [splitB_no h1] at h
    injection h with _ h2
    cases h2
/-- the text of lines -/
def textB (c : UInt8) (l : List ByteArray) : ByteArray := ⟨(l.flatMap fun x => x.data.toList ++ [c]).toArray⟩
theorem textB_cons (c : UInt8) (x : ByteArray) (l : List ByteArray) : textB c (x :: l) = x ++ ⟨#[c]⟩ ++ textB c l := by
  unfold textB
  refine ba_inj ?_
  rw [ByteArray.toList_eq, ByteArray.toList_eq]
  simp
theorem linesB_text (c : UInt8) : ∀ (n : Nat) (s : ByteArray), s.size ≤ n → ∀ l, linesB c s = some l → textB c l = s := by
  intro n
  induction n with
  | zero =>
    intro s h l hl
    rw [linesB_nil c s (by omega)] at hl
    rw [← Option.some.inj hl]
    obtain ⟨⟨d⟩⟩ := s
    have : d = [] := List.eq_nil_of_length_eq_zero (Nat.le_zero.1 h)
    subst this; rfl
  | succ n ih =>
    intro s h l hl
    rcases Nat.lt_or_ge (fnd c s) s.size with h1 | h1
    · rw [linesB_yes h1] at hl
      have hz := tail_sizeS s (fnd c s + 1)
      cases hq : linesB c (s.extract (fnd c s + 1) s.size) with
      | none => rw [hq] at hl; cases hl
      | some m =>
        rw [hq] at hl
        rw [← Option.some.inj hl, textB_cons, ih _ (by omega) m hq]
        have := cut_back s (fnd c s) h1
        rw [fnd_at c s h1] at this
        exact this
    · by_cases h0 : s.size = 0
      · exact ih s (by omega) l hl
      · rw [linesB_no h1 h0] at hl; cases hl
theorem sl_of_own {w : World} {base n size : Nat} {e : TypeId} {v : Value} {cs : List Value} (h : w.ownsRow base e size v n cs) : ∃ A c, v = .slice A n c := by
  obtain ⟨_, A, c, hv, _⟩ := Rd.of_own h
  exact ⟨A, c, hv⟩
/-- a row of texts of the call's own -/
theorem own_strs {w : World} {base : Nat} {v : Value} {L : List ByteArray} (h : w.ownsRow base 9 1 v L.length (L.map Value.string)) (hn : 0 < L.length) :
    ∃ g c, v = .slice (some ⟨g, 0, none⟩) L.length c ∧ L.length ≤ c ∧ c ≤ maxLen ∧ g < w.heap.size ∧ ∀ i (hi : i < L.length), w.cell? ⟨g, i, none⟩ = some (.string L[i]) := by
  rcases h.2 with ⟨_, h0⟩ | ⟨g, cap, _, hv, _, _, h1, h2, _⟩
  · omega
  · have hlt := (h.lt g (by rw [hv]; rfl)).2
    subst hv
    refine ⟨g, cap, rfl, h1, h2, hlt, fun i hi => ?_⟩
    have hc := h.cells (g := g) rfl i (.string L[i]) (by rw [List.getElem?_map, List.getElem?_eq_getElem hi]; rfl)
    have e0 : (⟨g, 0, none⟩ : Addr).add i = ⟨g, i, none⟩ := by unfold Addr.add; split <;> simp_all
    rwa [e0] at hc
theorem lines_last {s : ByteArray} : ∃ x, (splitB 10 s).getLast? = some x ∧ ((x.size ≠ 0 ∧ linesB 10 s = none) ∨ (x.size = 0 ∧ linesB 10 s = some (splitB 10 s).dropLast)) := by
  have hne := splitB_ne 10 s
  unfold linesB
  generalize splitB 10 s = L at *
  refine ⟨L.getLast hne, List.getLast?_eq_some_getLast hne, ?_⟩
  rw [List.getLast?_eq_some_getLast hne]
  generalize L.getLast hne = x
  by_cases h : x.size = 0
  · refine .inr ⟨h, ?_⟩
    have : x = ⟨#[]⟩ := by
      obtain ⟨⟨l⟩⟩ := x
      have : l = [] := List.eq_nil_of_length_eq_zero h
      rw [this]
    rw [this, if_pos rfl]
  · refine .inl ⟨h, ?_⟩
    rw [if_neg]
    intro e
    have := Option.some.inj e
    rw [this] at h
    exact h rfl
theorem drop_get {L : List ByteArray} {k : Nat} (h : k < L.dropLast.length) : L.dropLast[k] = L[k]'(by rw [List.length_dropLast] at h; omega) := by
  rw [List.getElem_dropLast]
theorem own_cap {w : World} {base n size m c : Nat} {e : TypeId} {A : Option Addr} {cs : List Value} (h : w.ownsRow base e size (.slice A m c) n cs) : m ≤ c ∧ c ≤ maxLen := by
  rcases h.2 with ⟨h0, _⟩ | ⟨g, cap, _, hv, _, _, h1, h2, _⟩
  · injection h0 with _ h1 h2
    subst h1 h2
    exact ⟨Nat.le_refl _, Nat.zero_le _⟩
  · injection hv with _ h3 h4
    subst h3 h4
    exact ⟨h1, h2⟩
/-- a row of texts of the call's own, empty perhaps -/
theorem own_strs0 {w : World} {base : Nat} {v : Value} {L : List ByteArray} (h : w.ownsRow base 9 1 v L.length (L.map Value.string)) :
    ∃ A c g, v = .slice A L.length c ∧ (0 < L.length → A = some ⟨g, 0, none⟩ ∧ g < w.heap.size) ∧ ∀ i (hi : i < L.length), w.cell? ⟨g, i, none⟩ = some (.string L[i]) := by
  by_cases h0 : 0 < L.length
  · obtain ⟨g, c, hv, _, _, hlt, hc⟩ := own_strs h h0
    exact ⟨_, c, g, hv, (fun _ => ⟨rfl, hlt⟩), hc⟩
  · obtain ⟨A, c, hv⟩ := sl_of_own h
    exact ⟨A, c, 0, hv, (fun h => absurd h h0), fun i hi => absurd hi (by omega)⟩
theorem splitB_one' {c : UInt8} {s x : ByteArray} (h : splitB c s = [x]) : s = x := by
  rcases Nat.lt_or_ge (fnd c s) s.size with h1 | h1
  · rw [splitB_yes h1] at h
    injection h with _ h2
    exact absurd h2 (splitB_ne _ _)
  · rw [splitB_no h1] at h
    injection h
end Go.Proofs.YtmheijnckmlbnaaDoor
/- Lists of texts: equality on three functions, the room that they take, copies. -/
namespace Go.Proofs.YtmheijnckmlbnaaDoor
open Go.RowKit Go.Joins

def strs (l : List ByteArray) : List Value := l.map Value.string
theorem strs_at (l : List ByteArray) (k : Nat) (h : k < l.length) : (strs l)[k]? = some (.string l[k]) := by simp [strs, h]
theorem infoSL : (Tryd.prog.info? 9).map (fun i => (i.zero, i.size, i.bytes)) = some (some (.string ⟨#[]⟩), 1, 16) := by kernel_rfl
theorem take_strs (zs : List ByteArray) (k : Nat) (h : k < zs.length) : strs (zs.take k) ++ [.string zs[k]] = strs (zs.take (k + 1)) := by
  rw [List.take_succ_eq_append_getElem h]; unfold strs; rw [List.map_append]; rfl
theorem rd_at {w : World} {B n c : Nat} {A : Option Addr} {zs : List ByteArray} (h : Rd w B (.slice A n c) zs.length 1 (strs zs)) (k : Nat) (hk : k < zs.length) :
    n = zs.length ∧ ∃ b off, A = some ⟨b, off, none⟩ ∧ w.cell? ⟨b, off + k, none⟩ = some (.string zs[k]) := by
  obtain ⟨_, A', c', hv, hc⟩ := h
  injection hv with e1 e2 e3
  subst e1
  obtain ⟨b, off, hA, _, hcc⟩ := hc (by omega)
  exact ⟨e2, b, off, hA, hcc k _ (strs_at zs k hk)⟩

set_option maxHeartbeats 400000 in
theorem eqStringS_any (B1 B2 : Nat) (v1 v2 : Value) (xs ys : List ByteArray) (w : World) (h1 : Rd w B1 v1 xs.length 1 (strs xs)) (h2 : Rd w B2 v2 ys.length 1 (strs ys)) (hx : xs.length ≤ 4611686018427387904) :
    Calls Tryd.prog 39 #[v1, v2] w fun e w' => e = .returned (.bool (decide (xs = ys))) ∧ ∃ n, w' = w.drewN n := by
  obtain ⟨_, A1, c1, rfl, h1⟩ := h1
  obtain ⟨_, A2, c2, rfl, h2⟩ := h2
  by_cases hlen : xs.length = ys.length
  · rw [← hlen] at h2
    have hb : ((xs.length : Int) != (xs.length : Int)) = false := by simp
    have Hlen := Lib.hid hlen
    rw [← hlen]
    clear hlen
    generalize hn : xs.length = n at *
    have Hn := Lib.hid hn; clear hn
    have H1 := Lib.hid h1; clear h1
    have H2 := Lib.hid h2; clear h2
    go_enter Tryd.func39, Tryd.ntmps39
    go_wp2_with fail
    go_loopw [5] (fun i wr => ∃ k m : Nat, k ≤ n ∧ i = .int .i64 k ∧ wr = w.drewN m ∧ xs.take k = ys.take k) (fun i _ => n - (intOf i).toNat)
    case atStart => exact ⟨0, 0, Nat.zero_le _, rfl, rfl, rfl⟩
    case round =>
      obtain ⟨k, m, hk, rfl, rfl, heq⟩ := hrel
      have Heq := Lib.hid heq; clear heq
      by_cases hlt : k < n
      · obtain ⟨b1, o1, rfl, _, hc1⟩ := H1.out (by omega)
        obtain ⟨b2, o2, rfl, _, hc2⟩ := H2.out (by omega)
        have hkx : k < xs.length := by have := Hn.out; omega
        have hky : k < ys.length := by have := Hn.out; have := Hlen.out; omega
        have hx := hc1 k _ (strs_at xs k hkx)
        have hy := hc2 k _ (strs_at ys k hky)
        have hlt' : (k : Int) < (n : Int) := by omega
        clear hc1 hc2
        generalize hX : xs[k] = X at *
        generalize hY : ys[k] = Y at *
        have HX := Lib.hid hX; clear hX
        have HY := Lib.hid hY; clear hY
        by_cases he : X = Y
        · subst he
          go_wp2_with fail
          go_quiet (fail)
          go_wp2_with fail
          go_roundw
          case rel => exact ⟨k + 1, _, by omega, by go_num, rfl, by rw [List.take_succ_eq_append_getElem hkx, List.take_succ_eq_append_getElem hky, Heq.out, HX.out, HY.out]⟩
          case measure => simp [intOf]; omega
        · have he' : (X.toList == Y.toList) = false := by rw [beq_eq_false_iff_ne]; exact fun h => he (ba_inj h)
          have hne := Lib.hid (show ¬ xs = ys from fun h => he (by subst h; rw [← HX.out, ← HY.out]))
          clear he
          go_wp2_with fail
          go_quiet (fail)
          go_wp2_with fail
          go_ret
          exact ⟨by simp [hne.out], m + nq, World.drewN_drewN ..⟩
      · have hfin := Lib.hid (show xs = ys by
          have := Heq.out
          rwa [List.take_of_length_le (by have := Hn.out; omega), List.take_of_length_le (by have := Hn.out; have := Hlen.out; omega)] at this)
        go_wp2_with fail
        go_ret
        exact ⟨by simp [hfin.out], _, rfl⟩
  · have hb : ((xs.length : Int) != (ys.length : Int)) = true := by simp; omega
    have hne := Lib.hid (show ¬ xs = ys from fun h => hlen (by rw [h]))
    clear hlen
    go_enter Tryd.func39, Tryd.ntmps39
    go_wp2_with fail
    go_ret
    exact ⟨by simp [hne.out], 0, rfl⟩

set_option maxHeartbeats 400000 in
theorem szStringS_any (B : Nat) (v : Value) (zs : List ByteArray) (left : Int) (w : World) (h : Rd w B v zs.length 1 (strs zs)) (hl : zs.length ≤ maxLen ∧ ∀ z ∈ zs, z.size ≤ maxLen) (q0 : 0 ≤ left) (q1 : left ≤ 1048576) :
    Calls Tryd.prog 94 #[v, .int .i64 left] w fun e w' => (∃ r : Int, e = .returned (.int .i64 r) ∧ r ≤ left ∧ (0 ≤ r → zs.length ≤ 1048576 ∧ ∀ z ∈ zs, z.size ≤ 1048576)) ∧ w = w' := by
  have h' := h
  obtain ⟨_, A, c, rfl, _⟩ := h'
  obtain ⟨hl1, hl2⟩ := hl
  have H := Lib.hid h; clear h
  have Hl2 := Lib.hid hl2; clear hl2
  simp only [maxLen] at hl1
  by_cases hbig : left < (zs.length : Int)
  · have hb : left - (zs.length : Int) < 0 := by omega
    go_enter Tryd.func94, Tryd.ntmps94
    go_wp2_with fail
    go_ret
    exact ⟨⟨_, rfl, by omega, by omega⟩, rfl⟩
  · have hb : ¬ left - (zs.length : Int) < 0 := by omega
    have hb0 : (0 : Int) ≤ left - (zs.length : Int) := by omega
    go_enter Tryd.func94, Tryd.ntmps94
    go_wp2_with fail
    go_loop [1, 5] (fun l i => ∃ (k : Nat) (r : Int), k ≤ zs.length ∧ 0 ≤ r ∧ r ≤ left ∧ (∀ z ∈ zs.take k, z.size ≤ 1048576) ∧ l = .int .i64 r ∧ i = .int .i64 k) (fun _ i => zs.length - (intOf i).toNat)
    case atStart => exact ⟨0, _, Nat.zero_le _, hb0, by omega, by simp, rfl, rfl⟩
    case round =>
      obtain ⟨k, r, hk, hr0, hr1, hall, rfl, rfl⟩ := hrel
      have Hall := Lib.hid hall; clear hall
      by_cases hlt : k < zs.length
      · obtain ⟨_, b1, o1, hA, hx⟩ := rd_at H.out k hlt
        subst hA
        have hz := Hl2.out zs[k] (List.getElem_mem _)
        simp only [maxLen] at hz
        have Hst := Lib.hid (show zs[k].size ≤ 1048576 → ∀ z ∈ zs.take (k + 1), z.size ≤ 1048576 from fun h z hz => by
          rw [List.take_succ_eq_append_getElem hlt] at hz
          rcases List.mem_append.1 hz with h1 | h1
          · exact Hall.out z h1
          · rw [List.mem_singleton.1 h1]; exact h)
        generalize zs[k] = z at *
        have hlt' : (k : Int) < (zs.length : Int) := by omega
        by_cases hsm : r - (z.size : Int) < 0
        · go_wp2_with fail
          go_ret
          exact ⟨⟨_, rfl, by omega, by omega⟩, rfl⟩
        · go_wp2_with fail
          go_round
          case rel => exact ⟨k + 1, r - (z.size : Int), by omega, by omega, by omega, Hst.out (by omega), rfl, by go_num⟩
          case measure => simp [intOf]; omega
      · have hfin := Hall.out
        rw [List.take_of_length_le (by omega)] at hfin
        have Hfin := Lib.hid hfin; clear hfin
        have hlt' : (zs.length : Int) ≤ (k : Int) := by omega
        go_wp2_with fail
        go_ret
        exact ⟨⟨_, rfl, hr1, fun _ => ⟨by omega, Hfin.out⟩⟩, rfl⟩

/-- a new list of the same strings -/
def RetS (w : World) (zs : List ByteArray) (e : Ending) (w' : World) : Prop := ∃ v, e = .returned v ∧ w'.ownsRow w.heap.size 9 1 v zs.length (strs zs) ∧ Below w.heap.size w w'

set_option maxHeartbeats 800000 in
theorem toStringS_any (B : Nat) (v : Value) (zs : List ByteArray) (w : World) (h : Rd w B v zs.length 1 (strs zs)) (hB : B ≤ w.heap.size) (hl : zs.length ≤ 1048576) :
    Calls Tryd.prog 97 #[v] w (RetS w zs) := by
  have h' := h
  obtain ⟨_, A, c, rfl, _⟩ := h'
  have H := Lib.hid h; clear h
  obtain ⟨i, hi, hz, h2, h3⟩ := info_parts infoSL
  obtain ⟨w1, hr, hown, hg⟩ := run_makeSlice_full (P := Tryd.prog) (w := w) w.heap.size 57 9 i _ 1 Tryd.underlying57 hi hz h2 .i64 .i64 zs.length (by omega) (by rw [h3]; omega) (by simp [maxLen]; omega) (Nat.le_refl _)
  have hb1 := below_of_grown hg (Nat.le_refl _) (fun x hx => by cases hx)
  generalize hxs : (madeCells (Value.cells (.string ⟨#[]⟩)) (zs.length * 1)).toList = xs at *
  have hxl : xs.length = zs.length := by simpa using hown.1
  have Hown := Lib.hid hown
  have Hb1 := Lib.hid hb1
  clear hi hz h2 h3 hxs hown hb1 hg
  go_enter Tryd.func97, Tryd.ntmps97
  go_wp2_with fail
  clear hr
  go_loopw [4] (fun i wr => ∃ k : Nat, k ≤ zs.length ∧ i = .int .i64 k ∧ wr.ownsRow w.heap.size 9 1 (.slice (some ⟨w.heap.size, 0, none⟩) zs.length zs.length) zs.length (strs (zs.take k) ++ xs.drop k) ∧ Below w.heap.size w wr) (fun i _ => zs.length - (intOf i).toNat)
  case atStart => exact ⟨0, Nat.zero_le _, rfl, by simpa [strs] using Hown.out, Hb1.out⟩
  case round =>
    obtain ⟨k, hk, rfl, hown, hbl⟩ := hrel
    by_cases hlt : k < zs.length
    · obtain ⟨_, b1, o1, hA, hx⟩ := rd_at (H.out.below (hbl.mono hB)) k hlt
      subst hA
      have hlt' : (k : Int) < (zs.length : Int) := by omega
      have hset : (strs (zs.take k) ++ xs.drop k).set k (.string zs[k]) = strs (zs.take (k + 1)) ++ xs.drop (k + 1) := by
        have hlen : (strs (zs.take k)).length = k := by simp [strs]; omega
        rw [List.set_append_right _ _ (by omega), hlen, Nat.sub_self, List.drop_eq_getElem_cons (by rw [hxl]; exact hlt), List.set_cons_zero, ← take_strs zs k hlt]
        simp
      have Hset := Lib.hid hset; clear hset
      generalize zs[k] = z at *
      obtain ⟨u, hu⟩ : ∃ u, (strs (zs.take k) ++ xs.drop k)[k]? = some u := ⟨_, List.getElem?_eq_getElem (by have := hown.1; omega)⟩
      have hc : wr.cell? ⟨w.heap.size, k, none⟩ = some u := (hown.cellAt k (by omega)).trans hu
      have hf : wr.frozen? ⟨w.heap.size, k, none⟩ = false := hown.frozenAt k
      obtain ⟨ho2, hg2⟩ := hown.stored k (.string z)
      rw [Hset.out] at ho2
      have hb2 : Below w.heap.size w (wr.setCell ⟨w.heap.size, k, none⟩ (.string z)) := hbl.setCell (p := ⟨w.heap.size, k, none⟩) (Nat.le_refl _) _
      clear hu hown hg2
      go_wp2_with fail
      go_roundw
      case rel => exact ⟨k + 1, by omega, by go_num, ho2, hb2⟩
      case measure => simp [intOf]; omega
    · rw [List.take_of_length_le (by omega), List.drop_of_length_le (by omega), List.append_nil] at hown
      have hlt' : (zs.length : Int) ≤ (k : Int) := by omega
      have Hown := Lib.hid hown; clear hown
      go_wp2_with fail
      go_ret
      exact ⟨_, rfl, Hown.out, hbl⟩

end Go.Proofs.YtmheijnckmlbnaaDoor
/- What a law's arguments read as, in the words of the walks: slices of numbers, of bytes. -/
namespace Go.Proofs.YtmheijnckmlbnaaDoor
open Go.ChangeShapes Go.WideShapes Go.ChangeAt Go.RowKit

section
variable {H : Type} {enc : TypeId × Value → H} {P : Program} {W : World}

theorem rd_ints {T E base : Nat} {k : IntKind} {r : Reach} {v : Value} {d : DataW H} {p : List MemPlace} (hT : P.underlying T = some (.slice E)) (hE : P.underlying E = some (.int k)) (hC : P.cellsOf E = 1)
    (ok : Value.okWide P W r base T v) (h : DataW.Trod enc P W 0 (fun _ => true) true T v d p) :
    ∃ zs : List Int, Rd W W.heap.size v zs.length 1 (zs.map (.int k)) ∧ zs.length ≤ maxLen ∧ ∀ z ∈ zs, (Lit.int k z).wf = true := by
  obtain ⟨a0, len, cap, rfl⟩ := okWide_slice hT ok
  obtain ⟨fuel, hf⟩ := h
  rcases open_ints hT hE hC hf with ⟨hcs, hx⟩ | ⟨a, len', cap', zs, hcs, _, hl, hm, hz, hx, hcell, hwz⟩
  · simp [Value.cells] at hcs
    obtain ⟨rfl, rfl, rfl⟩ := hcs
    exact ⟨[], ⟨rfl, none, 0, rfl, fun h => by simp at h⟩, by simp [maxLen], by simp⟩
  · simp [Value.cells] at hcs
    obtain ⟨rfl, rfl, rfl⟩ := hcs
    have hz' : zs.length = cap := by simpa using hz
    have hlen : (zs.take len).length = len := by rw [List.length_take]; omega
    refine ⟨zs.take len, ?_, by rw [hlen]; omega, fun z hzz => hwz z (List.mem_of_mem_take hzz)⟩
    rw [hlen]
    refine ⟨by simp; omega, some a, cap, rfl, fun hn => ?_⟩
    obtain ⟨b, off, rfl, hc⟩ := ints_at hcell (by omega)
    refine ⟨b, off, rfl, World.block_lt_of_cell? W _ (hc 0 (by omega)), fun i u hu => ?_⟩
    have hi : i < len := by
      have := (List.getElem?_eq_some_iff.1 hu).1
      simp at this; omega
    rw [hc i (by omega), ← hu]
    simp [hi, List.getD, (show i < zs.length by omega)]

theorem rd_bytes {T E base : Nat} {r : Reach} {v : Value} {d : DataW H} {p : List MemPlace} (hT : P.underlying T = some (.slice E)) (hE : P.underlying E = some (.int .u8)) (hC : P.cellsOf E = 1)
    (ok : Value.okWide P W r base T v) (h : DataW.Trod enc P W 0 (fun _ => true) true T v d p) :
    ∃ bs : List UInt8, Rd W W.heap.size v bs.length 1 (bs.map byV) ∧ bs.length ≤ maxLen := by
  obtain ⟨zs, h1, h2, h3⟩ := rd_ints hT hE hC ok h
  refine ⟨zs.map fun z => UInt8.ofNat z.toNat, ?_, by simpa using h2⟩
  have e : (zs.map fun z => UInt8.ofNat z.toNat).map byV = zs.map (.int .u8) := by
    rw [List.map_map]
    refine List.map_congr_left fun z hz => ?_
    have hb := bounds_u8 (h3 z hz)
    simp only [Function.comp, byV, UInt8.toNat_ofNat']
    congr 1
    omega
  rw [e]
  simpa using h1
end
end Go.Proofs.YtmheijnckmlbnaaDoor
/- What a law's arguments read as: slices of structs, as rows of cells. -/
namespace Go.Proofs.YtmheijnckmlbnaaDoor
open Go.ChangeShapes Go.WideShapes Go.ChangeAt Go.RowKit

/-- rows of equal width: cell j of row k -/
theorem flat_at {α : Type} (cells : α → List Value) (sz : Nat) (hc : ∀ x, (cells x).length = sz) : ∀ (xs : List α) (k j : Nat) (hk : k < xs.length), j < sz → (xs.flatMap cells)[k * sz + j]? = (cells xs[k])[j]?
  | [], k, j, hk, _ => by simp at hk
  | x :: xs, 0, j, _, hj => by
    rw [List.flatMap_cons, Nat.zero_mul, Nat.zero_add, List.getElem?_append_left (by rw [hc]; exact hj)]; rfl
  | x :: xs, k + 1, j, hk, hj => by
    rw [List.flatMap_cons, List.getElem?_append_right (by rw [hc, Nat.succ_mul]; omega), hc]
    have e : (k + 1) * sz + j - sz = k * sz + j := by rw [Nat.succ_mul]; omega
    rw [e, flat_at cells sz hc xs k j (by simpa using hk) hj]
    simp
theorem flat_len {α : Type} (cells : α → List Value) (sz : Nat) (hc : ∀ x, (cells x).length = sz) : ∀ xs : List α, (xs.flatMap cells).length = xs.length * sz
  | [] => by simp
  | x :: xs => by
    rw [List.flatMap_cons, List.length_append, hc, flat_len cells sz hc xs, List.length_cons, Nat.succ_mul]; omega

section
variable {H : Type} {enc : TypeId × Value → H} {P : Program} {W : World}

theorem rd_rows {α : Type} (cells : α → List Value) (good : α → Prop) {T E base sz : Nat} {r : Reach} {v : Value} {d : DataW H} {p : List MemPlace} (hT : P.underlying T = some (.slice E)) (hC : P.cellsOf E = sz) (hsz : 0 < sz) (hc : ∀ x, (cells x).length = sz)
    (elem : ∀ n cs y, DataW.trod enc P W 0 (fun _ => true) true n E cs = some y → ∃ x, cs = cells x ∧ good x)
    (ok : Value.okWide P W r base T v) (h : DataW.Trod enc P W 0 (fun _ => true) true T v d p) :
    ∃ xs : List α, Rd W W.heap.size v xs.length sz (xs.flatMap cells) ∧ xs.length ≤ maxLen ∧ ∀ x ∈ xs, good x := by
  obtain ⟨a0, len, cap, rfl⟩ := okWide_slice hT ok
  obtain ⟨fuel, hf⟩ := h
  rcases Go.Deep.open_slice hT hf with ⟨hcs, hx⟩ | ⟨a, len', cap', m, n, D, Pl, hcs, _, hl, hm, hmm, hx, hi⟩
  · simp [Value.cells] at hcs
    obtain ⟨rfl, rfl, rfl⟩ := hcs
    exact ⟨[], ⟨by simp, none, 0, rfl, fun h => by simp at h⟩, by simp [maxLen], by simp⟩
  · simp [Value.cells] at hcs
    obtain ⟨rfl, rfl, rfl⟩ := hcs
    have hm' : m = cap := by simpa using hmm
    subst hm'
    have hel : ∀ i : Nat, i < m → ∃ x, good x ∧ W.cells? 0 (a.add (i * sz)) sz = some (cells x) := fun i hi' => by
      obtain ⟨cs', h1, h2⟩ := hi i hi'
      obtain ⟨x, rfl, hg⟩ := elem _ _ _ h2
      rw [hC] at h1
      exact ⟨x, hg, h1⟩
    have hch : ∃ f : Fin len → α, ∀ i : Fin len, good (f i) ∧ W.cells? 0 (a.add (i * sz)) sz = some (cells (f i)) :=
      ⟨fun i => Classical.choose (hel i (by have := i.2; omega)), fun i => Classical.choose_spec (hel i (by have := i.2; omega))⟩
    obtain ⟨f, hff⟩ := hch
    have hlen : (List.ofFn f).length = len := List.length_ofFn
    refine ⟨List.ofFn f, ?_, by rw [hlen]; omega, fun x hx => ?_⟩
    · rw [hlen]
      refine ⟨by rw [flat_len cells sz hc, hlen], some a, m, rfl, fun hn => ?_⟩
      have hl0 : 0 < len := by
        rcases Nat.eq_zero_or_pos len with h | h
        · subst h; simp at hn
        · exact h
      have hcell : ∀ (k : Nat) (hk : k < len) (j : Nat), j < sz → W.cell? ((a.add (k * sz)).add j) = (cells (f ⟨k, hk⟩))[j]? := fun k hk j hj =>
        (World.cells?_some (hff ⟨k, hk⟩).2).2.2 j hj
      obtain ⟨b, off, spot⟩ := a
      have h00 := hcell 0 hl0 0 hsz
      rw [List.getElem?_eq_getElem (by rw [hc]; exact hsz)] at h00
      have hspot : spot = none := by simpa [Addr.add] using World.cell?_spot h00
      subst hspot
      have hadd : ∀ k j, ((⟨b, off, none⟩ : Addr).add (k * sz)).add j = ⟨b, off + (k * sz + j), none⟩ := fun k j => by
        rw [Go.WideShapes.add_plain, Go.WideShapes.add_plain, Nat.add_assoc]
      rw [hadd] at h00
      refine ⟨b, off, rfl, World.block_lt_of_cell? W _ h00, fun i u hu => ?_⟩
      have hil : i < len * sz := by
        have := (List.getElem?_eq_some_iff.1 hu).1
        rwa [flat_len cells sz hc, hlen] at this
      have hk : i / sz < len := by rw [Nat.div_lt_iff_lt_mul hsz]; exact hil
      have hj : i % sz < sz := Nat.mod_lt _ hsz
      have hdm : i / sz * sz + i % sz = i := by rw [Nat.mul_comm]; exact Nat.div_add_mod i sz
      have h1 := hcell (i / sz) hk (i % sz) hj
      rw [hadd, hdm] at h1
      have h2 := flat_at cells sz hc (List.ofFn f) (i / sz) (i % sz) (by rw [hlen]; exact hk) hj
      rw [hdm, List.getElem_ofFn] at h2
      rw [h1, ← h2, hu]
    · obtain ⟨i, rfl⟩ := List.mem_ofFn.1 hx
      exact (hff i).1
end
end Go.Proofs.YtmheijnckmlbnaaDoor
/- Entries, part 1: how lists of entries lie; the exact laws' helpers. -/
namespace Go.Proofs.YtmheijnckmlbnaaDoor
open Go.RowKit Go.Joins

structure Ent where
  num : Int
  name : ByteArray
  maker : ByteArray
  year : Int
  words : List ByteArray
deriving DecidableEq

/-- an entry's cells; the second part is the value of its words -/
def cellsE (x : Ent × Value) : List Value := [.int .i64 x.1.num, .string x.1.name, .string x.1.maker, .int .i64 x.1.year, x.2]
def RdW (w : World) (B : Nat) (y : Ent × Value) : Prop := Rd w B y.2 y.1.words.length 1 (strs y.1.words)
/-- THE READING OF A LIST OF ENTRIES -/
def RdE (w : World) (B : Nat) (v : Value) (xs : List Ent) : Prop :=
  ∃ ys : List (Ent × Value), ys.map (·.1) = xs ∧ Rd w B v xs.length 5 (ys.flatMap cellsE) ∧ ∀ y ∈ ys, RdW w B y
theorem RdE.below {w w' : World} {B : Nat} {v : Value} {xs : List Ent} (h : RdE w B v xs) (hb : Below B w w') : RdE w' B v xs := by
  obtain ⟨ys, h1, h2, h3⟩ := h
  exact ⟨ys, h1, h2.below hb, fun y hy => (h3 y hy).below hb⟩
theorem RdE.more {w : World} {B B' : Nat} {v : Value} {xs : List Ent} (h : RdE w B v xs) (hB : B ≤ B') : RdE w B' v xs := by
  obtain ⟨ys, h1, h2, h3⟩ := h
  exact ⟨ys, h1, h2.more hB, fun y hy => (h3 y hy).more hB⟩
theorem RdE.next {w w' : World} {v : Value} {xs : List Ent} (h : RdE w w.heap.size v xs) (hb : Below w.heap.size w w') : RdE w' w'.heap.size v xs := (h.below hb).more hb.size
theorem RdE.drewN {w : World} {B : Nat} {v : Value} {xs : List Ent} (h : RdE w B v xs) (n : Nat) : RdE (w.drewN n) B v xs := h
theorem RdE.slice {w : World} {B : Nat} {v : Value} {xs : List Ent} (h : RdE w B v xs) : ∃ A c, v = .slice A xs.length c := by
  obtain ⟨ys, h1, ⟨_, A, c, h2, _⟩, h3⟩ := h
  exact ⟨A, c, h2⟩

/-- the five cells of an entry -/
structure EntAt (w : World) (B b o : Nat) (x : Ent) (A : Option Addr) (c : Nat) : Prop where
  lt : b < B
  c0 : w.cell? ⟨b, o, none⟩ = some (.int .i64 x.num)
  c1 : w.cell? ⟨b, o + 1, none⟩ = some (.string x.name)
  c2 : w.cell? ⟨b, o + 2, none⟩ = some (.string x.maker)
  c3 : w.cell? ⟨b, o + 3, none⟩ = some (.int .i64 x.year)
  c4 : w.cell? ⟨b, o + 4, none⟩ = some (.slice A x.words.length c)
  words : Rd w B (.slice A x.words.length c) x.words.length 1 (strs x.words)
theorem EntAt.below {w w' : World} {B b o c : Nat} {x : Ent} {A : Option Addr} (h : EntAt w B b o x A c) (hb : Below B w w') : EntAt w' B b o x A c :=
  ⟨h.lt, (hb.cell (p := ⟨b, o, none⟩) h.lt).trans h.c0, (hb.cell (p := ⟨b, o + 1, none⟩) h.lt).trans h.c1, (hb.cell (p := ⟨b, o + 2, none⟩) h.lt).trans h.c2, (hb.cell (p := ⟨b, o + 3, none⟩) h.lt).trans h.c3, (hb.cell (p := ⟨b, o + 4, none⟩) h.lt).trans h.c4, h.words.below hb⟩
theorem EntAt.drewN {w : World} {B b o c : Nat} {x : Ent} {A : Option Addr} (h : EntAt w B b o x A c) (n : Nat) : EntAt (w.drewN n) B b o x A c := ⟨h.1, h.2, h.3, h.4, h.5, h.6, h.7⟩

theorem RdE.at {w : World} {B n c : Nat} {A : Option Addr} {xs : List Ent} (h : RdE w B (.slice A n c) xs) (k : Nat) (hk : k < xs.length) :
    ∃ b off A' c', A = some ⟨b, off, none⟩ ∧ EntAt w B b (off + k * 5) xs[k] A' c' := by
  obtain ⟨ys, h1, ⟨_, A0, c0, hv, hc⟩, h3⟩ := h
  subst h1
  injection hv with e1 e2 e3
  subst e1
  rw [List.length_map] at hk hc
  obtain ⟨b, off, hA, hb, hcc⟩ := hc (by omega)
  have hw := h3 ys[k] (List.getElem_mem hk)
  obtain ⟨_, A', c', hv', _⟩ := id hw
  have hx : (ys.map (·.1))[k]'(by simpa using hk) = ys[k].1 := by simp
  rw [hx]
  have hat : ∀ j u, j < 5 → (cellsE ys[k])[j]? = some u → w.cell? ⟨b, off + k * 5 + j, none⟩ = some u := fun j u hj hu => by
    have := hcc (k * 5 + j) u ((flat_at cellsE 5 (fun _ => rfl) ys k j hk hj).trans hu)
    rwa [← Nat.add_assoc] at this
  refine ⟨b, off, A', c', hA, ⟨hb, hat 0 _ (by omega) rfl, hat 1 _ (by omega) rfl, hat 2 _ (by omega) rfl, hat 3 _ (by omega) rfl, ?_, ?_⟩⟩
  · rw [← hv']; exact hat 4 _ (by omega) rfl
  · rw [← hv']; exact hw

theorem infoE : (Tryd.prog.info? 99).map (fun i => (i.zero, i.size, i.bytes)) = some (some (.agg #[.int .i64 0, .string ⟨#[]⟩, .string ⟨#[]⟩, .int .i64 0, .slice none 0 0]), 5, 72) := by kernel_rfl

/-- five cells of a block that is the call's own -/
theorem blk5 {w : World} {g : Nat} {a b c d e : Value} {t : TypeId} (h : w.heap[g]? = some (.cells #[a, b, c, d, e] t (0, 0))) :
    w.cell? ⟨g, 0, none⟩ = some a ∧ w.cell? ⟨g, 1, none⟩ = some b ∧ w.cell? ⟨g, 2, none⟩ = some c ∧ w.cell? ⟨g, 3, none⟩ = some d ∧ w.cell? ⟨g, 4, none⟩ = some e ∧ ∀ i, w.frozen? ⟨g, i, none⟩ = false := by
  refine ⟨?_, ?_, ?_, ?_, ?_, fun i => ?_⟩
  · rw [cell_of_row w g 0 _ _ _ h]; rfl
  · rw [cell_of_row w g 1 _ _ _ h]; rfl
  · rw [cell_of_row w g 2 _ _ _ h]; rfl
  · rw [cell_of_row w g 3 _ _ _ h]; rfl
  · rw [cell_of_row w g 4 _ _ _ h]; rfl
  · exact frozen_of_row w g i _ _ h

/-- a list of texts, copied: the slice is written out -/
theorem toStringS_c (B : Nat) (A : Option Addr) (c : Nat) (zs : List ByteArray) (w : World) (h : Rd w B (.slice A zs.length c) zs.length 1 (strs zs)) (hB : B ≤ w.heap.size) (hl : zs.length ≤ 1048576) :
    Calls Tryd.prog 97 #[.slice A zs.length c] w fun e w' => ∃ A' c', e = .returned (.slice A' zs.length c') ∧ w'.ownsRow w.heap.size 9 1 (.slice A' zs.length c') zs.length (strs zs) ∧ Below w.heap.size w w' := by
  refine (toStringS_any B _ zs w h hB hl).mono ?_
  rintro e w' ⟨v, rfl, ho, hb⟩
  obtain ⟨_, A', c', rfl, _⟩ := Rd.of_own ho
  exact ⟨A', c', rfl, ho, hb⟩

set_option maxRecDepth 100000 in
set_option maxHeartbeats 1600000 in
theorem toEntry_any (B : Nat) (x : Ent) (A : Option Addr) (c : Nat) (w : World) (h : Rd w B (.slice A x.words.length c) x.words.length 1 (strs x.words)) (hB : B ≤ w.heap.size) (hl : x.words.length ≤ 1048576) :
    Calls Tryd.prog 72 #[.agg #[.int .i64 x.num, .string x.name, .string x.maker, .int .i64 x.year, .slice A x.words.length c]] w fun e w' =>
      ∃ A' c', e = .returned (.agg #[.int .i64 x.num, .string x.name, .string x.maker, .int .i64 x.year, .slice A' x.words.length c']) ∧ w'.ownsRow w.heap.size 9 1 (.slice A' x.words.length c') x.words.length (strs x.words) ∧ Below w.heap.size w w' := by
  obtain ⟨num, name, maker, year, words⟩ := x
  simp only at *
  have HT := Lib.hid (fun wx hx hB => toStringS_c B A c words wx hx hB hl)
  have H := Lib.hid h
  go_enter Tryd.func72, Tryd.ntmps72
  go_wp2_with fail
  have hb3 := Lib.hid ((((Below.refl w.heap.size w).alloc (Nat.le_refl _) (.cells #[.int .i64 num, .string name, .string maker, .int .i64 year, .slice A words.length c] 90)).alloc (by simp) (.cells #[.int .i64 0, .string ⟨#[]⟩, .string ⟨#[]⟩, .int .i64 0, .slice none 0 0] 99)).alloc (by simp; omega) (.cells #[.int .i64 num, .string name, .string maker, .int .i64 year, .slice none 0 0] 99))
  have hr : ∀ i o, (i = 1 ∧ o = Obj.cells #[.int .i64 0, .string ⟨#[]⟩, .string ⟨#[]⟩, .int .i64 0, .slice none 0 0] 99 (0, 0)) ∨ (i = 2 ∧ o = Obj.cells #[.int .i64 num, .string name, .string maker, .int .i64 year, .slice none 0 0] 99 (0, 0)) → (((w.alloc (.cells #[.int .i64 num, .string name, .string maker, .int .i64 year, .slice A words.length c] 90)).alloc (.cells #[.int .i64 0, .string ⟨#[]⟩, .string ⟨#[]⟩, .int .i64 0, .slice none 0 0] 99)).alloc (.cells #[.int .i64 num, .string name, .string maker, .int .i64 year, .slice none 0 0] 99)).heap[w.heap.size + i]? = some o := by
    intro i o hi
    show (((w.heap.push _).push _).push _)[w.heap.size + i]? = _
    simp only [Array.getElem?_push, Array.size_push]
    rcases hi with ⟨rfl, rfl⟩ | ⟨rfl, rfl⟩ <;> simp
  have Hr := Lib.hid hr; clear hr
  have hz3 : (((w.alloc (.cells #[.int .i64 num, .string name, .string maker, .int .i64 year, .slice A words.length c] 90)).alloc (.cells #[.int .i64 0, .string ⟨#[]⟩, .string ⟨#[]⟩, .int .i64 0, .slice none 0 0] 99)).alloc (.cells #[.int .i64 num, .string name, .string maker, .int .i64 year, .slice none 0 0] 99)).heap.size = w.heap.size + 3 := by simp
  generalize ((w.alloc (.cells #[.int .i64 num, .string name, .string maker, .int .i64 year, .slice A words.length c] 90)).alloc (.cells #[.int .i64 0, .string ⟨#[]⟩, .string ⟨#[]⟩, .int .i64 0, .slice none 0 0] 99)).alloc (.cells #[.int .i64 num, .string name, .string maker, .int .i64 year, .slice none 0 0] 99) = w3 at *
  refine (HT.out _ (H.out.below (hb3.out.mono hB)) (by omega)).mono ?_; rintro e w4 ⟨A', c', rfl, ho4, hb4⟩
  have f1 := (hb4.block (w.heap.size + 1) (by omega)).trans (Hr.out 1 _ (.inl ⟨rfl, rfl⟩))
  have f2 := (hb4.block (w.heap.size + 1 + 1) (by omega)).trans (Hr.out 2 _ (.inr ⟨rfl, rfl⟩))
  obtain ⟨a0, a1, a2, a3, a4, a5⟩ := blk5 f1
  obtain ⟨b0, b1, b2, b3, b4, b5⟩ := blk5 f2
  have hb04 := hb3.out.trans (hb4.mono hb3.out.size)
  have g2 := heap_setCell_same w4 (w.heap.size + 1 + 1) 4 _ _ (.slice A' words.length c') f2
  have g1 : (w4.setCell ⟨w.heap.size + 1 + 1, 4, none⟩ (.slice A' words.length c')).heap[w.heap.size + 1]? = _ := (Below.heap_setCell _ _ _ _ (by simp)).trans f1
  have g3 := (heap_setCell_same _ (w.heap.size + 1) 4 _ _ (.slice A' words.length c') (heap_setCell_same _ (w.heap.size + 1) 3 _ _ (.int .i64 year) (heap_setCell_same _ (w.heap.size + 1) 2 _ _ (.string maker) (heap_setCell_same _ (w.heap.size + 1) 1 _ _ (.string name) (heap_setCell_same _ (w.heap.size + 1) 0 _ _ (.int .i64 num) g1)))))
  obtain ⟨p0, p1, p2, p3, p4, p5⟩ := blk5 g2
  obtain ⟨q0, q1, q2, q3, q4, _⟩ := blk5 g3
  have Hbe := Lib.hid ((((((hb04.setCell (p := ⟨w.heap.size + 1 + 1, 4, none⟩) (by simp; omega) (.slice A' words.length c')).setCell (p := ⟨w.heap.size + 1, 0, none⟩) (by simp) (.int .i64 num)).setCell (p := ⟨w.heap.size + 1, 1, none⟩) (by simp) (.string name)).setCell (p := ⟨w.heap.size + 1, 2, none⟩) (by simp) (.string maker)).setCell (p := ⟨w.heap.size + 1, 3, none⟩) (by simp) (.int .i64 year)).setCell (p := ⟨w.heap.size + 1, 4, none⟩) (by simp) (.slice A' words.length c'))
  have Hoe := Lib.hid (ownsRow_le (ownsRow_setCell_below (ownsRow_setCell_below (ownsRow_setCell_below (ownsRow_setCell_below (ownsRow_setCell_below (ownsRow_setCell_below ho4 (a := ⟨w.heap.size + 1 + 1, 4, none⟩) (by show w.heap.size + 1 + 1 < w3.heap.size; omega) (.slice A' words.length c')) (a := ⟨w.heap.size + 1, 0, none⟩) (by show w.heap.size + 1 < w3.heap.size; omega) (.int .i64 num)) (a := ⟨w.heap.size + 1, 1, none⟩) (by show w.heap.size + 1 < w3.heap.size; omega) (.string name)) (a := ⟨w.heap.size + 1, 2, none⟩) (by show w.heap.size + 1 < w3.heap.size; omega) (.string maker)) (a := ⟨w.heap.size + 1, 3, none⟩) (by show w.heap.size + 1 < w3.heap.size; omega) (.int .i64 year)) (a := ⟨w.heap.size + 1, 4, none⟩) (by show w.heap.size + 1 < w3.heap.size; omega) (.slice A' words.length c')) (base' := w.heap.size) (by omega))
  have k10 := a5 0
  have k11 := a5 1
  have k12 := a5 2
  have k13 := a5 3
  have k14 := a5 4
  have k24 := b5 4
  clear f1 f2 g1 g2 g3 hb4 hb04 ho4 hz3 a5 b5 p5
  go_wp2_with fail
  exact bodyPost_ret (v := .agg #[.int .i64 num, .string name, .string maker, .int .i64 year, .slice A' words.length c']) (by simp [results, Tryd.results72, go_sem, q0, q1, q2, q3, q4]) rfl ⟨_, _, rfl, Hoe.out, Hbe.out⟩
end Go.Proofs.YtmheijnckmlbnaaDoor
/- Entries, part 2: copies, equality and room of lists of entries; the reading of an argument. -/
namespace Go.Proofs.YtmheijnckmlbnaaDoor
open Go.RowKit Go.Joins

theorem set5 (l r : List Value) (n : Nat) (hn : l.length = n) (hr : 5 ≤ r.length) (a b c d e : Value) :
    (((((l ++ r).set n a).set (n + 1) b).set (n + 2) c).set (n + 3) d).set (n + 4) e = (l ++ [a, b, c, d, e]) ++ r.drop 5 := by
  subst hn
  match r, hr with
  | x0 :: x1 :: x2 :: x3 :: x4 :: r, _ =>
    rw [List.set_append_right _ _ (Nat.le_refl _), List.set_append_right _ _ (by omega), List.set_append_right _ _ (by omega), List.set_append_right _ _ (by omega), List.set_append_right _ _ (by omega)]
    simp

/-- a new list of the same entries -/
def RetE (w : World) (xs : List Ent) (e : Ending) (w' : World) : Prop :=
  ∃ ys : List (Ent × Value), e = .returned (.slice (some ⟨w.heap.size, 0, none⟩) xs.length xs.length) ∧ ys.map (·.1) = xs ∧ w'.ownsRow w.heap.size 99 5 (.slice (some ⟨w.heap.size, 0, none⟩) xs.length xs.length) xs.length (ys.flatMap cellsE) ∧
    (∀ y ∈ ys, w'.ownsRow (w.heap.size + 1) 9 1 y.2 y.1.words.length (strs y.1.words)) ∧ Below w.heap.size w w'
theorem Rd.of_own' {w : World} {base : Nat} {e : TypeId} {sz n : Nat} {v : Value} {cs : List Value} (h : w.ownsRow base e sz v n cs) : Rd w w.heap.size v n sz cs := Rd.of_own h

set_option maxRecDepth 100000 in
set_option maxHeartbeats 3200000 in
theorem toEntryS_any (B : Nat) (v : Value) (xs : List Ent) (w : World) (h : RdE w B v xs) (hB : B ≤ w.heap.size) (hl : xs.length ≤ 1048576) (hws : ∀ x ∈ xs, x.words.length ≤ 1048576) :
    Calls Tryd.prog 30 #[v] w (RetE w xs) := by
  have H := Lib.hid h
  obtain ⟨A, c, rfl⟩ := h.slice
  have Hws := Lib.hid hws
  obtain ⟨i, hi, hz, h2, h3⟩ := info_parts infoE
  obtain ⟨w1, hr, hown, hg⟩ := run_makeSlice_full (P := Tryd.prog) (w := w) w.heap.size 50 99 i _ 5 Tryd.underlying50 hi hz h2 .i64 .i64 xs.length (by omega) (by rw [h3]; omega) (by simp [maxLen]; omega) (Nat.le_refl _)
  have hb1 := below_of_grown hg (Nat.le_refl _) (fun x hx => by cases hx)
  generalize hxs : (madeCells (Value.cells (.agg #[.int .i64 0, .string ⟨#[]⟩, .string ⟨#[]⟩, .int .i64 0, .slice none 0 0])) (xs.length * 5)).toList = zs at *
  have hxl : zs.length = xs.length * 5 := by simpa using hown.1
  have Hown := Lib.hid hown
  have Hb1 := Lib.hid hb1
  have Hxl := Lib.hid hxl
  clear hi hz h2 h3 hxs hown hb1 hg hxl h hws
  go_enter Tryd.func30, Tryd.ntmps30
  go_wp2_with fail
  clear hr
  go_loopw [4] (fun i wr => ∃ (k : Nat) (ys : List (Ent × Value)), k ≤ xs.length ∧ ys.map (·.1) = xs.take k ∧ i = .int .i64 k ∧ wr.ownsRow w.heap.size 99 5 (.slice (some ⟨w.heap.size, 0, none⟩) xs.length xs.length) xs.length (ys.flatMap cellsE ++ zs.drop (k * 5)) ∧ (∀ y ∈ ys, wr.ownsRow (w.heap.size + 1) 9 1 y.2 y.1.words.length (strs y.1.words)) ∧ Below w.heap.size w wr) (fun i _ => xs.length - (intOf i).toNat)
  case atStart => exact ⟨0, [], Nat.zero_le _, rfl, rfl, by simpa using Hown.out, by simp, Hb1.out⟩
  case round =>
    obtain ⟨k, ys, hk, hys, rfl, hown, hyo, hbl⟩ := hrel
    have Hyo := Lib.hid hyo; clear hyo
    have Hys := Lib.hid hys
    have hyl : ys.length = k := by
      have := congrArg List.length hys
      rw [List.length_map, List.length_take] at this
      omega
    clear hys
    by_cases hlt : k < xs.length
    · obtain ⟨b1, o1, A1, c1, hA, hE⟩ := (H.out.below (hbl.mono hB)).at k hlt
      subst hA
      have hlt' : (k : Int) < (xs.length : Int) := by omega
      have hwl := Hws.out xs[k] (List.getElem_mem hlt)
      have HX := Lib.hid (show xs.take (k + 1) = xs.take k ++ [xs[k]] from List.take_succ_eq_append_getElem hlt)
      generalize xs[k] = x at *
      obtain ⟨num, name, maker, year, words⟩ := x
      obtain ⟨hbB, e0, e1, e2, e3, e4, ew⟩ := hE
      (try dsimp only at e0 e1 e2 e3 e4 ew hwl)
      have HT := Lib.hid (toEntry_any B ⟨num, name, maker, year, words⟩ A1 c1 wr ew (Nat.le_trans hB hbl.size) hwl)
      have hzb : b1 < wr.heap.size := World.block_lt_of_cell? wr _ e0
      have Hown := Lib.hid hown; clear hown ew
      have hgz := (Hown.out.lt w.heap.size rfl).2
      go_wp2_with fail
      refine HT.out.mono ?_; rintro e w3 ⟨A3, c3, rfl, how, hb3⟩
      (try dsimp only at how)
      have hown := own_below Hown.out hb3
      have hbl3 := hbl.trans (hb3.mono hbl.size)
      have hset : (((((ys.flatMap cellsE ++ zs.drop (k * 5)).set (k * 5) (.int .i64 num)).set (k * 5 + 1) (.string name)).set (k * 5 + 2) (.string maker)).set (k * 5 + 3) (.int .i64 year)).set (k * 5 + 4) (.slice A3 words.length c3) = (ys ++ [((⟨num, name, maker, year, words⟩ : Ent), Value.slice A3 words.length c3)]).flatMap cellsE ++ zs.drop ((k + 1) * 5) := by
        have hx2 := Hxl.out
        rw [set5 _ _ (k * 5) (by rw [flat_len cellsE 5 (fun _ => rfl), hyl]) (by rw [List.length_drop]; omega), List.flatMap_append, List.drop_drop, show k * 5 + 5 = (k + 1) * 5 by omega]
        rfl
      have Hset := Lib.hid hset; clear hset
      obtain ⟨u0, hu0⟩ : ∃ u, (ys.flatMap cellsE ++ zs.drop (k * 5))[k * 5 + 0]? = some u := ⟨_, List.getElem?_eq_getElem (by have := hown.1; omega)⟩
      have hc0 : w3.cell? ⟨w.heap.size, k * 5, none⟩ = some u0 := (hown.cellAt (k * 5 + 0) (by omega)).trans hu0
      have hf0 : w3.frozen? ⟨w.heap.size, k * 5, none⟩ = false := hown.frozenAt (k * 5 + 0)
      obtain ⟨u1, hu1⟩ : ∃ u, (ys.flatMap cellsE ++ zs.drop (k * 5))[k * 5 + 1]? = some u := ⟨_, List.getElem?_eq_getElem (by have := hown.1; omega)⟩
      have hc1 : w3.cell? ⟨w.heap.size, k * 5 + 1, none⟩ = some u1 := (hown.cellAt (k * 5 + 1) (by omega)).trans hu1
      have hf1 : w3.frozen? ⟨w.heap.size, k * 5 + 1, none⟩ = false := hown.frozenAt (k * 5 + 1)
      obtain ⟨u2, hu2⟩ : ∃ u, (ys.flatMap cellsE ++ zs.drop (k * 5))[k * 5 + 2]? = some u := ⟨_, List.getElem?_eq_getElem (by have := hown.1; omega)⟩
      have hc2 : w3.cell? ⟨w.heap.size, k * 5 + 2, none⟩ = some u2 := (hown.cellAt (k * 5 + 2) (by omega)).trans hu2
      have hf2 : w3.frozen? ⟨w.heap.size, k * 5 + 2, none⟩ = false := hown.frozenAt (k * 5 + 2)
      obtain ⟨u3, hu3⟩ : ∃ u, (ys.flatMap cellsE ++ zs.drop (k * 5))[k * 5 + 3]? = some u := ⟨_, List.getElem?_eq_getElem (by have := hown.1; omega)⟩
      have hc3 : w3.cell? ⟨w.heap.size, k * 5 + 3, none⟩ = some u3 := (hown.cellAt (k * 5 + 3) (by omega)).trans hu3
      have hf3 : w3.frozen? ⟨w.heap.size, k * 5 + 3, none⟩ = false := hown.frozenAt (k * 5 + 3)
      obtain ⟨u4, hu4⟩ : ∃ u, (ys.flatMap cellsE ++ zs.drop (k * 5))[k * 5 + 4]? = some u := ⟨_, List.getElem?_eq_getElem (by have := hown.1; omega)⟩
      have hc4 : w3.cell? ⟨w.heap.size, k * 5 + 4, none⟩ = some u4 := (hown.cellAt (k * 5 + 4) (by omega)).trans hu4
      have hf4 : w3.frozen? ⟨w.heap.size, k * 5 + 4, none⟩ = false := hown.frozenAt (k * 5 + 4)
      obtain ⟨ho0, _⟩ := hown.stored (k * 5) (.int .i64 num)
      obtain ⟨ho1, _⟩ := ho0.stored (k * 5 + 1) (.string name)
      obtain ⟨ho2, _⟩ := ho1.stored (k * 5 + 2) (.string maker)
      obtain ⟨ho3, _⟩ := ho2.stored (k * 5 + 3) (.int .i64 year)
      obtain ⟨ho4, _⟩ := ho3.stored (k * 5 + 4) (.slice A3 words.length c3)
      rw [Hset.out] at ho4
      have Ho4 := Lib.hid ho4
      have Hb4 := Lib.hid (((((hbl3.setCell (p := ⟨w.heap.size, k * 5, none⟩) (Nat.le_refl _) (.int .i64 num)).setCell (p := ⟨w.heap.size, k * 5 + 1, none⟩) (Nat.le_refl _) (.string name)).setCell (p := ⟨w.heap.size, k * 5 + 2, none⟩) (Nat.le_refl _) (.string maker)).setCell (p := ⟨w.heap.size, k * 5 + 3, none⟩) (Nat.le_refl _) (.int .i64 year)).setCell (p := ⟨w.heap.size, k * 5 + 4, none⟩) (Nat.le_refl _) (.slice A3 words.length c3))
      have hnew : Hid (∀ y ∈ ys ++ [((⟨num, name, maker, year, words⟩ : Ent), Value.slice A3 words.length c3)], (((((w3.setCell ⟨w.heap.size, k * 5, none⟩ (.int .i64 num)).setCell ⟨w.heap.size, k * 5 + 1, none⟩ (.string name)).setCell ⟨w.heap.size, k * 5 + 2, none⟩ (.string maker)).setCell ⟨w.heap.size, k * 5 + 3, none⟩ (.int .i64 year)).setCell ⟨w.heap.size, k * 5 + 4, none⟩ (.slice A3 words.length c3)).ownsRow (w.heap.size + 1) 9 1 y.2 y.1.words.length (strs y.1.words)) := Lib.hid fun y hy => by
        rcases List.mem_append.1 hy with hy | hy
        · exact (ownsRow_setCell_below (ownsRow_setCell_below (ownsRow_setCell_below (ownsRow_setCell_below (ownsRow_setCell_below (own_below (Hyo.out y hy) hb3) (a := ⟨w.heap.size, k * 5, none⟩) (Nat.lt_succ_self _) (.int .i64 num)) (a := ⟨w.heap.size, k * 5 + 1, none⟩) (Nat.lt_succ_self _) (.string name)) (a := ⟨w.heap.size, k * 5 + 2, none⟩) (Nat.lt_succ_self _) (.string maker)) (a := ⟨w.heap.size, k * 5 + 3, none⟩) (Nat.lt_succ_self _) (.int .i64 year)) (a := ⟨w.heap.size, k * 5 + 4, none⟩) (Nat.lt_succ_self _) (.slice A3 words.length c3))
        · obtain rfl := List.mem_singleton.1 hy
          exact (ownsRow_setCell_below (ownsRow_setCell_below (ownsRow_setCell_below (ownsRow_setCell_below (ownsRow_setCell_below (ownsRow_le how (base' := w.heap.size + 1) hgz) (a := ⟨w.heap.size, k * 5, none⟩) (Nat.lt_succ_self _) (.int .i64 num)) (a := ⟨w.heap.size, k * 5 + 1, none⟩) (Nat.lt_succ_self _) (.string name)) (a := ⟨w.heap.size, k * 5 + 2, none⟩) (Nat.lt_succ_self _) (.string maker)) (a := ⟨w.heap.size, k * 5 + 3, none⟩) (Nat.lt_succ_self _) (.int .i64 year)) (a := ⟨w.heap.size, k * 5 + 4, none⟩) (Nat.lt_succ_self _) (.slice A3 words.length c3))
      clear hu0 hu1 hu2 hu3 hu4 hown ho0 ho1 ho2 ho3 ho4 how hb3 e0 e1 e2 e3 e4 hbl hbl3
      go_wp2_with fail
      go_roundw
      case rel => exact ⟨k + 1, _, by omega, by rw [List.map_append, Hys.out, HX.out]; rfl, by go_num, Ho4.out, hnew.out, Hb4.out⟩
      case measure => simp [intOf]; omega
    · have hd : (ys.flatMap cellsE ++ zs.drop (k * 5)) = ys.flatMap cellsE := by
        rw [List.drop_of_length_le (by have := Hxl.out; omega), List.append_nil]
      rw [hd] at hown
      have hfin := Lib.hid (show ys.map (·.1) = xs by rw [Hys.out, List.take_of_length_le (by omega)])
      clear hd
      have hlt' : (xs.length : Int) ≤ (k : Int) := by omega
      have Hown := Lib.hid hown; clear hown
      go_wp2_with fail
      go_ret
      exact ⟨ys, rfl, hfin.out, Hown.out, Hyo.out, hbl⟩

theorem RetE.rd {w w' : World} {xs : List Ent} {e : Ending} (h : RetE w xs e w') : ∃ A c, e = .returned (.slice A xs.length c) ∧ RdE w' w'.heap.size (.slice A xs.length c) xs ∧ Below w.heap.size w w' := by
  obtain ⟨ys, rfl, h1, h2, h3, h4⟩ := h
  exact ⟨_, _, rfl, ⟨ys, h1, Rd.of_own h2, fun y hy => Rd.of_own (h3 y hy)⟩, h4⟩
theorem toEntryS_c (B : Nat) (v : Value) (xs : List Ent) (w : World) (h : RdE w B v xs) (hB : B ≤ w.heap.size) (hl : xs.length ≤ 1048576) (hws : ∀ x ∈ xs, x.words.length ≤ 1048576) :
    Calls Tryd.prog 30 #[v] w fun e w' => ∃ A c, e = .returned (.slice A xs.length c) ∧ RdE w' w'.heap.size (.slice A xs.length c) xs ∧ Below w.heap.size w w' :=
  (toEntryS_any B v xs w h hB hl hws).mono fun _ _ h => h.rd
end Go.Proofs.YtmheijnckmlbnaaDoor
/- Entries, part 3: equality and room of entries; the reading of an argument. -/
namespace Go.Proofs.YtmheijnckmlbnaaDoor
open Go.RowKit Go.Joins

theorem eqStringS_same (B1 B2 : Nat) (v1 v2 : Value) (xs : List ByteArray) (w : World) (h1 : Rd w B1 v1 xs.length 1 (strs xs)) (h2 : Rd w B2 v2 xs.length 1 (strs xs)) (hx : xs.length ≤ 4611686018427387904) :
    Calls Tryd.prog 39 #[v1, v2] w fun e w' => e = .returned (.bool true) ∧ ∃ n, w' = w.drewN n := by
  refine (eqStringS_any B1 B2 v1 v2 xs xs w h1 h2 hx).mono ?_
  rintro e w' ⟨rfl, h⟩
  exact ⟨by simp, h⟩

/-- an entry as a value -/
abbrev aggE (x : Ent) (A : Option Addr) (c : Nat) : Value := .agg #[.int .i64 x.num, .string x.name, .string x.maker, .int .i64 x.year, .slice A x.words.length c]

set_option maxRecDepth 100000 in
set_option maxHeartbeats 800000 in
theorem eqEntry_same (B1 B2 : Nat) (x : Ent) (A1 A2 : Option Addr) (c1 c2 : Nat) (w : World) (h1 : Rd w B1 (.slice A1 x.words.length c1) x.words.length 1 (strs x.words)) (h2 : Rd w B2 (.slice A2 x.words.length c2) x.words.length 1 (strs x.words)) (hB1 : B1 ≤ w.heap.size) (hB2 : B2 ≤ w.heap.size) (hl : x.words.length ≤ 1048576) :
    Calls Tryd.prog 76 #[aggE x A1 c1, aggE x A2 c2] w fun e w' => e = .returned (.bool true) ∧ Below w.heap.size w w' := by
  obtain ⟨num, name, maker, year, words⟩ := x
  dsimp only at *
  have Hb := fun o1 o2 => Lib.hid (((Below.refl w.heap.size w).alloc (Nat.le_refl _) o1).alloc (by simp) o2)
  have HE := Lib.hid (fun wx hx hy => eqStringS_same B1 B2 (.slice A1 words.length c1) (.slice A2 words.length c2) words wx hx hy (by omega))
  have H1 := Lib.hid h1
  have H2 := Lib.hid h2
  clear h1 h2
  go_enter Tryd.func76, Tryd.ntmps76
  go_wp2_with fail
  refine (HE.out _ (H1.out.below ((Hb _ _).out.mono hB1)) (H2.out.below ((Hb _ _).out.mono hB2))).mono ?_; rintro e w1 ⟨rfl, n, rfl⟩
  have hfin := Lib.hid (below_drewN (Hb (.cells #[.int .i64 num, .string name, .string maker, .int .i64 year, .slice A1 words.length c1] 99) (.cells #[.int .i64 num, .string name, .string maker, .int .i64 year, .slice A2 words.length c2] 99)).out n)
  clear Hb
  go_wp2_with fail
  go_ret
  exact ⟨rfl, hfin.out⟩

/-- the ten cells of two entries -/
theorem EntAt.ten {w : World} {B1 B2 b1 o1 b2 o2 c1 c2 : Nat} {x y : Ent} {A1 A2 : Option Addr} (h : EntAt w B1 b1 o1 x A1 c1) (k : EntAt w B2 b2 o2 y A2 c2) :
    w.cell? ⟨b1, o1, none⟩ = some (.int .i64 x.num) ∧ w.cell? ⟨b1, o1 + 1, none⟩ = some (.string x.name) ∧ w.cell? ⟨b1, o1 + 2, none⟩ = some (.string x.maker) ∧ w.cell? ⟨b1, o1 + 3, none⟩ = some (.int .i64 x.year) ∧ w.cell? ⟨b1, o1 + 4, none⟩ = some (.slice A1 x.words.length c1) ∧
    w.cell? ⟨b2, o2, none⟩ = some (.int .i64 y.num) ∧ w.cell? ⟨b2, o2 + 1, none⟩ = some (.string y.name) ∧ w.cell? ⟨b2, o2 + 2, none⟩ = some (.string y.maker) ∧ w.cell? ⟨b2, o2 + 3, none⟩ = some (.int .i64 y.year) ∧ w.cell? ⟨b2, o2 + 4, none⟩ = some (.slice A2 y.words.length c2) :=
  ⟨h.c0, h.c1, h.c2, h.c3, h.c4, k.c0, k.c1, k.c2, k.c3, k.c4⟩

set_option maxRecDepth 100000 in
set_option maxHeartbeats 1600000 in
theorem eqEntryS_same (B1 B2 : Nat) (v1 v2 : Value) (xs : List Ent) (w : World) (h1 : RdE w B1 v1 xs) (h2 : RdE w B2 v2 xs) (hB1 : B1 ≤ w.heap.size) (hB2 : B2 ≤ w.heap.size) (hl : xs.length ≤ 1048576) (hws : ∀ x ∈ xs, x.words.length ≤ 1048576) :
    Calls Tryd.prog 33 #[v1, v2] w fun e w' => e = .returned (.bool true) ∧ Below w.heap.size w w' := by
  have H1 := Lib.hid h1
  have H2 := Lib.hid h2
  have Hws := Lib.hid hws
  obtain ⟨A1, c1, rfl⟩ := h1.slice
  obtain ⟨A2, c2, rfl⟩ := h2.slice
  clear h1 h2 hws
  have hb0 := Below.refl w.heap.size w
  go_enter Tryd.func33, Tryd.ntmps33
  go_wp2_with fail
  go_loopw [5] (fun i wr => ∃ k : Nat, k ≤ xs.length ∧ i = .int .i64 k ∧ Below w.heap.size w wr) (fun i _ => xs.length - (intOf i).toNat)
  case atStart => exact ⟨0, Nat.zero_le _, rfl, hb0⟩
  case round =>
    obtain ⟨k, hk, rfl, hbl⟩ := hrel
    by_cases hlt : k < xs.length
    · obtain ⟨b1, o1, A3, c3, hA1, hE1⟩ := (H1.out.below (hbl.mono hB1)).at k hlt
      obtain ⟨b2, o2, A4, c4, hA2, hE2⟩ := (H2.out.below (hbl.mono hB2)).at k hlt
      subst hA1 hA2
      have hwl := Hws.out xs[k] (List.getElem_mem hlt)
      generalize xs[k] = x at *
      obtain ⟨num, name, maker, year, words⟩ := x
      have HE1 := Lib.hid hE1
      have HE2 := Lib.hid hE2
      obtain ⟨hbB1, e0, e1, e2, e3, e4, _⟩ := hE1
      obtain ⟨hbB2, f0, f1, f2, f3, f4, _⟩ := hE2
      dsimp only at e0 e1 e2 e3 e4 f0 f1 f2 f3 f4 hwl
      have hlt' : (k : Int) < (xs.length : Int) := by omega
      have hacc : Below w.heap.size w wr.drew := hbl.drew
      have hac2 : Below wr.heap.size wr wr.drew := (Below.refl _ _).drew
      have hz1 : B1 ≤ wr.heap.size := Nat.le_trans hB1 hbl.size
      have hz2 : B2 ≤ wr.heap.size := Nat.le_trans hB2 hbl.size
      clear hbl
      go_wp2_with fail
      go_region_held3 (fun w' => w'.cell? ⟨b1, o1 + k * 5, none⟩ = some (.int .i64 num) ∧ w'.cell? ⟨b1, o1 + k * 5 + 1, none⟩ = some (.string name) ∧ w'.cell? ⟨b1, o1 + k * 5 + 2, none⟩ = some (.string maker) ∧ w'.cell? ⟨b1, o1 + k * 5 + 3, none⟩ = some (.int .i64 year) ∧ w'.cell? ⟨b1, o1 + k * 5 + 4, none⟩ = some (.slice A3 words.length c3) ∧
          w'.cell? ⟨b2, o2 + k * 5, none⟩ = some (.int .i64 num) ∧ w'.cell? ⟨b2, o2 + k * 5 + 1, none⟩ = some (.string name) ∧ w'.cell? ⟨b2, o2 + k * 5 + 2, none⟩ = some (.string maker) ∧ w'.cell? ⟨b2, o2 + k * 5 + 3, none⟩ = some (.int .i64 year) ∧ w'.cell? ⟨b2, o2 + k * 5 + 4, none⟩ = some (.slice A4 words.length c4))
        (first | go_keep | assumption)
        ((go_at_call 76; ((with_reducible refine (eqEntry_same B1 B2 ⟨num, name, maker, year, words⟩ A3 A4 c3 c4 _ (HE1.out.words.below (hac2.mono hz1)) (HE2.out.words.below (hac2.mono hz2)) (Nat.le_trans hz1 hac2.size) (Nat.le_trans hz2 hac2.size) hwl).mono ?_)); rintro e wq ⟨rfl, hbq⟩; have hSq := (HE1.out.below ((hac2.trans (hbq.mono hac2.size)).mono hz1)).ten (HE2.out.below ((hac2.trans (hbq.mono hac2.size)).mono hz2)); dsimp only at hSq; have hacc' := hacc.trans (hbq.mono hacc.size); clear hacc; have hacc := hacc'; clear hacc'))
      go_wp2_with fail
      go_roundw
      case rel => exact ⟨k + 1, by omega, by go_num, hacc⟩
      case measure => simp [intOf]; omega
    · have hlt' : (xs.length : Int) ≤ (k : Int) := by omega
      go_wp2_with fail
      go_ret
      exact ⟨rfl, hbl⟩

/-- all that an argument's entries are -/
def lenE (x : Ent) : Prop := x.name.size ≤ maxLen ∧ x.maker.size ≤ maxLen ∧ x.words.length ≤ maxLen ∧ ∀ z ∈ x.words, z.size ≤ maxLen
/-- small enough -/
def smE (x : Ent) : Prop := x.name.size ≤ 1048576 ∧ x.maker.size ≤ 1048576 ∧ x.words.length ≤ 1048576 ∧ ∀ z ∈ x.words, z.size ≤ 1048576
def SzE (x : Ent) (left : Int) (w : World) (e : Ending) (w' : World) : Prop := ∃ r : Int, e = .returned (.int .i64 r) ∧ r ≤ left ∧ (0 ≤ r → smE x) ∧ Below w.heap.size w w'

set_option maxRecDepth 100000 in
set_option maxHeartbeats 800000 in
theorem szEntry_any (B : Nat) (x : Ent) (A : Option Addr) (c : Nat) (left : Int) (w : World) (h : Rd w B (.slice A x.words.length c) x.words.length 1 (strs x.words)) (hB : B ≤ w.heap.size) (hx : lenE x) (q0 : 0 ≤ left) (q1 : left ≤ 1048576) :
    Calls Tryd.prog 67 #[aggE x A c, .int .i64 left] w (SzE x left w) := by
  obtain ⟨num, name, maker, year, words⟩ := x
  obtain ⟨l1, l2, l3, l4⟩ := hx
  dsimp only at *
  have hb := Lib.hid ((Below.refl w.heap.size w).alloc (Nat.le_refl _) (.cells #[.int .i64 num, .string name, .string maker, .int .i64 year, .slice A words.length c] 90))
  have HZ := Lib.hid (fun lf wx hx q0 q1 => szStringS_any B (.slice A words.length c) words lf wx hx ⟨l3, l4⟩ q0 q1)
  have H := Lib.hid (h.below (hb.out.mono hB))
  clear h l4
  simp only [maxLen] at l1 l2 l3
  by_cases n1 : left - (name.size : Int) < 0
  · go_enter Tryd.func67, Tryd.ntmps67
    go_wp2_with fail
    go_ret
    exact ⟨_, rfl, by omega, by omega, hb.out⟩
  · by_cases n2 : left - (name.size : Int) - (maker.size : Int) < 0
    · go_enter Tryd.func67, Tryd.ntmps67
      go_wp2_with fail
      go_ret
      exact ⟨_, rfl, by omega, by omega, hb.out⟩
    · have HZ2 := Lib.hid (HZ.out (left - (name.size : Int) - (maker.size : Int)) _ H.out (by omega) (by omega))
      go_enter Tryd.func67, Tryd.ntmps67
      go_wp2_with fail
      refine HZ2.out.mono ?_; rintro e w1 ⟨⟨r, rfl, hr1, hr2⟩, rfl⟩
      have Hr2 := Lib.hid hr2; clear hr2
      by_cases n3 : r < 0
      · go_wp2_with fail
        go_ret
        exact ⟨_, rfl, by omega, by omega, hb.out⟩
      · go_wp2_with fail
        go_ret
        have h5 := Hr2.out (by omega)
        exact ⟨_, rfl, by omega, fun _ => ⟨by show name.size ≤ _; omega, by show maker.size ≤ _; omega, h5.1, h5.2⟩, hb.out⟩

def SzEs (xs : List Ent) (left : Int) (w : World) (e : Ending) (w' : World) : Prop := ∃ r : Int, e = .returned (.int .i64 r) ∧ r ≤ left ∧ (0 ≤ r → xs.length ≤ 1048576 ∧ ∀ x ∈ xs, smE x) ∧ Below w.heap.size w w'
set_option maxRecDepth 100000 in
set_option maxHeartbeats 1600000 in
theorem szEntryS_any (B : Nat) (v : Value) (xs : List Ent) (left : Int) (w : World) (h : RdE w B v xs) (hB : B ≤ w.heap.size) (hl : xs.length ≤ maxLen) (hx : ∀ x ∈ xs, lenE x) (q0 : 0 ≤ left) (q1 : left ≤ 1048576) :
    Calls Tryd.prog 28 #[v, .int .i64 left] w (SzEs xs left w) := by
  have H := Lib.hid h
  have Hx := Lib.hid hx
  obtain ⟨A, c, rfl⟩ := h.slice
  clear h hx
  simp only [maxLen] at hl
  have hb0 := Lib.hid (Below.refl w.heap.size w)
  by_cases hbig : left - (xs.length : Int) < 0
  · go_enter Tryd.func28, Tryd.ntmps28
    go_wp2_with fail
    go_ret
    exact ⟨_, rfl, by omega, by omega, hb0.out⟩
  · have hb1 : (0 : Int) ≤ left - (xs.length : Int) := by omega
    go_enter Tryd.func28, Tryd.ntmps28
    go_wp2_with fail
    go_loopw [1, 5] (fun l i wr => ∃ (k : Nat) (r : Int), k ≤ xs.length ∧ 0 ≤ r ∧ r ≤ left ∧ (∀ x ∈ xs.take k, smE x) ∧ l = .int .i64 r ∧ i = .int .i64 k ∧ Below w.heap.size w wr) (fun _ i _ => xs.length - (intOf i).toNat)
    case atStart => exact ⟨0, _, Nat.zero_le _, hb1, by omega, by simp, rfl, rfl, hb0.out⟩
    case round =>
      obtain ⟨k, r, hk, hr0, hr1, hall, rfl, rfl, hbl⟩ := hrel
      have Hall := Lib.hid hall; clear hall
      by_cases hlt : k < xs.length
      · obtain ⟨b1, o1, A1, c1, hA, hE⟩ := (H.out.below (hbl.mono hB)).at k hlt
        subst hA
        have hlt' : (k : Int) < (xs.length : Int) := by omega
        have Hle := Lib.hid (Hx.out xs[k] (List.getElem_mem hlt))
        have Hst := Lib.hid (show smE xs[k] → ∀ x ∈ xs.take (k + 1), smE x from fun h x hx => by
          rw [List.take_succ_eq_append_getElem hlt] at hx
          rcases List.mem_append.1 hx with h1 | h1
          · exact Hall.out x h1
          · rw [List.mem_singleton.1 h1]; exact h)
        generalize xs[k] = x at *
        obtain ⟨num, name, maker, year, words⟩ := x
        have HZ := Lib.hid (szEntry_any B ⟨num, name, maker, year, words⟩ A1 c1 r wr hE.words (Nat.le_trans hB hbl.size) Hle.out hr0 (by omega))
        obtain ⟨hbB, e0, e1, e2, e3, e4, _⟩ := hE
        dsimp only at e0 e1 e2 e3 e4
        go_wp2_with fail
        refine HZ.out.mono ?_; rintro e w1 ⟨r', rfl, hr1', hr2', hb1'⟩
        have hbl1 := hbl.trans (hb1'.mono hbl.size)
        have Hr2 := Lib.hid hr2'; clear hr2' hbl hb1'
        by_cases n1 : r' < 0
        · go_wp2_with fail
          go_ret
          exact ⟨_, rfl, by omega, by omega, hbl1⟩
        · go_wp2_with fail
          go_roundw
          case rel => exact ⟨k + 1, r', by omega, by omega, by omega, Hst.out (Hr2.out (by omega)), rfl, by go_num, hbl1⟩
          case measure => simp [intOf]; omega
      · have hfin := Hall.out
        rw [List.take_of_length_le (by omega)] at hfin
        have Hfin := Lib.hid hfin; clear hfin
        have hlt' : (xs.length : Int) ≤ (k : Int) := by omega
        go_wp2_with fail
        go_ret
        exact ⟨_, rfl, hr1, fun _ => ⟨by omega, Hfin.out⟩, hbl⟩
end Go.Proofs.YtmheijnckmlbnaaDoor
/- Entries, part 4: SameEntries on both sides. -/
namespace Go.Proofs.YtmheijnckmlbnaaDoor
open Go.RowKit Go.Joins

/-- where two entries part first -/
theorem ent_cases (x y : Ent) : x = y ∨
    (x ≠ y ∧ ((x.num != y.num) = true ∨ (x.num = y.num ∧ (x.name.toList != y.name.toList) = true ∧ (x.name.toList == y.name.toList) = false) ∨ (x.num = y.num ∧ x.name = y.name ∧ (x.maker.toList != y.maker.toList) = true ∧ (x.maker.toList == y.maker.toList) = false) ∨
      (x.num = y.num ∧ x.name = y.name ∧ x.maker = y.maker ∧ (x.year != y.year) = true) ∨ (x.num = y.num ∧ x.name = y.name ∧ x.maker = y.maker ∧ x.year = y.year ∧ decide (x.words = y.words) = false))) := by
  have hbn : ∀ a b : ByteArray, a ≠ b → (a.toList != b.toList) = true ∧ (a.toList == b.toList) = false := fun a b h =>
    ⟨bne_iff_ne.2 fun e => h (ba_inj e), beq_eq_false_iff_ne.2 fun e => h (ba_inj e)⟩
  by_cases h : x = y
  · exact .inl h
  · refine .inr ⟨h, ?_⟩
    by_cases h1 : x.num = y.num
    · by_cases h2 : x.name = y.name
      · by_cases h3 : x.maker = y.maker
        · by_cases h4 : x.year = y.year
          · refine .inr (.inr (.inr (.inr ⟨h1, h2, h3, h4, ?_⟩)))
            rw [decide_eq_false_iff_not]
            intro h5
            exact h (by obtain ⟨a, b, c, d, e⟩ := x; obtain ⟨a', b', c', d', e'⟩ := y; simp_all)
          · exact .inr (.inr (.inr (.inl ⟨h1, h2, h3, bne_iff_ne.2 h4⟩)))
        · exact .inr (.inr (.inl ⟨h1, h2, hbn _ _ h3⟩))
      · exact .inr (.inl ⟨h1, hbn _ _ h2⟩)
    · exact .inl (bne_iff_ne.2 h1)

theorem ents_bad {xs ys : List Ent} (k : Nat) (hx : k < xs.length) (hy : k < ys.length) (h : xs[k] ≠ ys[k]) : decide (xs = ys) = false := by
  rw [decide_eq_false_iff_not]
  intro e
  subst e
  exact h rfl
theorem ents_step {xs ys : List Ent} (k : Nat) (hx : k < xs.length) (hy : k < ys.length) (h0 : xs.take k = ys.take k) (h : xs[k] = ys[k]) : xs.take (k + 1) = ys.take (k + 1) := by
  rw [List.take_succ_eq_append_getElem hx, List.take_succ_eq_append_getElem hy, h0, h]

end Go.Proofs.YtmheijnckmlbnaaDoor
/- Loans, part 1: how lists of loans lie; one loan's size and copy. -/
namespace Go.Proofs.YtmheijnckmlbnaaDoor
open Go.RowKit Go.Joins

structure Ln where
  what : ByteArray
  who : ByteArray
  from_ : Int
  till : Int
deriving DecidableEq
def cellsL (x : Ln) : List Value := [.string x.what, .string x.who, .int .i64 x.from_, .int .i64 x.till]
abbrev aggL (x : Ln) : Value := .agg #[.string x.what, .string x.who, .int .i64 x.from_, .int .i64 x.till]
/-- the reading of a list of loans -/
def RdL (w : World) (B : Nat) (v : Value) (xs : List Ln) : Prop := Rd w B v xs.length 4 (xs.flatMap cellsL)
theorem RdL.below {w w' : World} {B : Nat} {v : Value} {xs : List Ln} (h : RdL w B v xs) (hb : Below B w w') : RdL w' B v xs := Rd.below h hb
theorem RdL.more {w : World} {B B' : Nat} {v : Value} {xs : List Ln} (h : RdL w B v xs) (hB : B ≤ B') : RdL w B' v xs := Rd.more h hB
theorem RdL.next {w w' : World} {v : Value} {xs : List Ln} (h : RdL w w.heap.size v xs) (hb : Below w.heap.size w w') : RdL w' w'.heap.size v xs := (h.below hb).more hb.size
theorem RdL.drewN {w : World} {B : Nat} {v : Value} {xs : List Ln} (h : RdL w B v xs) (n : Nat) : RdL (w.drewN n) B v xs := h
theorem RdL.slice {w : World} {B : Nat} {v : Value} {xs : List Ln} (h : RdL w B v xs) : ∃ A c, v = .slice A xs.length c := by
  obtain ⟨_, A, c, h2, _⟩ := h
  exact ⟨A, c, h2⟩
/-- the four cells of a loan -/
structure LnAt (w : World) (B b o : Nat) (x : Ln) : Prop where
  lt : b < B
  c0 : w.cell? ⟨b, o, none⟩ = some (.string x.what)
  c1 : w.cell? ⟨b, o + 1, none⟩ = some (.string x.who)
  c2 : w.cell? ⟨b, o + 2, none⟩ = some (.int .i64 x.from_)
  c3 : w.cell? ⟨b, o + 3, none⟩ = some (.int .i64 x.till)
theorem LnAt.below {w w' : World} {B b o : Nat} {x : Ln} (h : LnAt w B b o x) (hb : Below B w w') : LnAt w' B b o x :=
  ⟨h.lt, (hb.cell (p := ⟨b, o, none⟩) h.lt).trans h.c0, (hb.cell (p := ⟨b, o + 1, none⟩) h.lt).trans h.c1, (hb.cell (p := ⟨b, o + 2, none⟩) h.lt).trans h.c2, (hb.cell (p := ⟨b, o + 3, none⟩) h.lt).trans h.c3⟩
theorem LnAt.drewN {w : World} {B b o : Nat} {x : Ln} (h : LnAt w B b o x) (n : Nat) : LnAt (w.drewN n) B b o x := ⟨h.1, h.2, h.3, h.4, h.5⟩
theorem RdL.at {w : World} {B n c : Nat} {A : Option Addr} {xs : List Ln} (h : RdL w B (.slice A n c) xs) (k : Nat) (hk : k < xs.length) :
    ∃ b off, A = some ⟨b, off, none⟩ ∧ LnAt w B b (off + k * 4) xs[k] := by
  obtain ⟨_, A0, c0, hv, hc⟩ := h
  injection hv with e1 e2 e3
  subst e1
  obtain ⟨b, off, hA, hb, hcc⟩ := hc (by omega)
  have hat : ∀ j u, j < 4 → (cellsL xs[k])[j]? = some u → w.cell? ⟨b, off + k * 4 + j, none⟩ = some u := fun j u hj hu => by
    have := hcc (k * 4 + j) u ((flat_at cellsL 4 (fun _ => rfl) xs k j hk hj).trans hu)
    rwa [← Nat.add_assoc] at this
  exact ⟨b, off, hA, ⟨hb, hat 0 _ (by omega) rfl, hat 1 _ (by omega) rfl, hat 2 _ (by omega) rfl, hat 3 _ (by omega) rfl⟩⟩
theorem infoL : (Tryd.prog.info? 26).map (fun i => (i.zero, i.size, i.bytes)) = some (some (.agg #[.string ⟨#[]⟩, .string ⟨#[]⟩, .int .i64 0, .int .i64 0]), 4, 48) := by kernel_rfl

def lenL (x : Ln) : Prop := x.what.size ≤ maxLen ∧ x.who.size ≤ maxLen
def smL (x : Ln) : Prop := x.what.size ≤ 1048576 ∧ x.who.size ≤ 1048576
def SzL (x : Ln) (left : Int) (w : World) (e : Ending) (w' : World) : Prop := ∃ r : Int, e = .returned (.int .i64 r) ∧ r ≤ left ∧ (0 ≤ r → smL x) ∧ Below w.heap.size w w'
end Go.Proofs.YtmheijnckmlbnaaDoor
