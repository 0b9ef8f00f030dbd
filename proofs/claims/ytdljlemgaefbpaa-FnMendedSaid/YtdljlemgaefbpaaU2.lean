/- Errors of tables, part 2: lists that are checked. -/
import Derived.Test.YtdljlemgaefbpaaU1
namespace Go.Proofs.Ytdljlemgaefbpaa
open Go.RowKit Go.Joins

theorem ret_bool {a b : Bool} (h : a = b) : Ending.returned (.bool a) = .returned (.bool b) := by rw [h]
def allN (n : Nat) (f : Nat → Bool) : Bool := (List.range n).all f
theorem allN_bad {n : Nat} {f : Nat → Bool} (k : Nat) (hk : k < n) (h : f k = false) : allN n f = false := by
  unfold allN
  rw [List.all_eq_false]
  exact ⟨k, List.mem_range.2 hk, by simp [h]⟩
theorem allN_zero (f : Nat → Bool) : allN 0 f = true := rfl
theorem allN_step {f : Nat → Bool} {k : Nat} (h0 : allN k f = true) (h : f k = true) : allN (k + 1) f = true := by
  unfold allN at *
  rw [List.range_succ, List.all_append, h0]
  simp [h]
theorem allN_get {f : Nat → Bool} {n k : Nat} (h : allN n f = true) (hk : k < n) : f k = true := List.all_eq_true.1 h k (List.mem_range.2 hk)
theorem allN_congr {f g : Nat → Bool} {n : Nat} (h : ∀ i, i < n → f i = g i) : allN n f = allN n g := by
  induction n with
  | zero => rfl
  | succ n ih =>
    unfold allN at *
    rw [List.range_succ, List.all_append, List.all_append, ih (fun i hi => h i (by omega))]
    simp [h n (by omega)]
/-- the code of values and a unit -/
def rc (n : Nat) (f : Nat → Int) (u : Int) : Int := if allN n (fun i => inB (f i) (-1000000000000) 1000000000000) then (if inB u 1 1000000 then (if 200 < n then 5 else 0) else 2) else 2
theorem rc_bad {n : Nat} {f : Nat → Int} {u : Int} (h : allN n (fun i => inB (f i) (-1000000000000) 1000000000000) = false) : rc n f u = 2 := by unfold rc; rw [h]; rfl
theorem rc_unit {n : Nat} {f : Nat → Int} {u : Int} (h : inB u 1 1000000 = false) : rc n f u = 2 := by unfold rc; rw [h]; split <;> rfl
theorem rc_end {n : Nat} {f : Nat → Int} {u : Int} (h : allN n (fun i => inB (f i) (-1000000000000) 1000000000000) = true) (h2 : inB u 1 1000000 = true) : rc n f u = if 200 < n then 5 else 0 := by unfold rc; rw [h, h2]; rfl
theorem rc_ok {n : Nat} {f : Nat → Int} {u : Int} (h : rc n f u = 0) : (∀ i, i < n → -1000000000000 ≤ f i ∧ f i ≤ 1000000000000) ∧ (1 ≤ u ∧ u ≤ 1000000) ∧ n ≤ 200 := by
  unfold rc at h
  split at h
  · rename_i h1
    split at h
    · rename_i h2
      split at h
      · cases h
      · exact ⟨fun i hi => inB_iff.1 (allN_get h1 hi), inB_iff.1 h2, by omega⟩
    · cases h
  · cases h
theorem rc_cases (n : Nat) (f : Nat → Int) (u : Int) : rc n f u = 0 ∨ rc n f u = 2 ∨ rc n f u = 5 := by
  unfold rc
  split
  · split
    · split
      · exact .inr (.inr rfl)
      · exact .inl rfl
    · exact .inr (.inl rfl)
  · exact .inr (.inl rfl)
def slipB (n : Nat) (f : Nat → Int) : Bool := allN n (fun i => inB (f i) 0 1000000) && inB n 1 9
theorem slipB_bad {n : Nat} {f : Nat → Int} (h : allN n (fun i => inB (f i) 0 1000000) = false) : slipB n f = false := by unfold slipB; rw [h]; rfl
theorem slipB_end {n : Nat} {f : Nat → Int} (h : allN n (fun i => inB (f i) 0 1000000) = true) : slipB n f = inB n 1 9 := by unfold slipB; rw [h]; rfl
theorem slipB_ok {n : Nat} {f : Nat → Int} (h : slipB n f = true) : (∀ i, i < n → 0 ≤ f i ∧ f i ≤ 1000000) ∧ 1 ≤ n ∧ n ≤ 9 := by
  unfold slipB at h
  rw [Bool.and_eq_true] at h
  have := inB_iff.1 h.2
  exact ⟨fun i hi => inB_iff.1 (allN_get h.1 hi), by omega, by omega⟩
theorem rcI_c (B : Nat) (v : Value) (n : Nat) (f : Nat → Int) (u : Int) (w : World) (h : Rd w B v n 1 (tab n f)) (hn : n ≤ 1000) :
    Calls Try.prog 116 #[v, .int .i64 u] w fun e w' => e = .returned (.int .i64 (rc n f u)) ∧ w = w' := by
  have H := Lib.hid h
  obtain ⟨A, c, rfl⟩ := rd_sl h
  have HU := Lib.hid (fun wx => isUnit_c u wx)
  clear h
  go_enter Try.func116, Try.ntmps116
  go_wp2_with fail
  go_loop [9] (fun i => ∃ k : Nat, k ≤ n ∧ i = .int .i64 (k : Int) ∧ allN k (fun i => inB (f i) (-1000000000000) 1000000000000) = true) (fun i => n - (intOf i).toNat)
  case atStart => exact ⟨0, Nat.zero_le _, rfl, rfl⟩
  case round =>
    obtain ⟨k, hk, rfl, hall⟩ := hrel
    have Hall := Lib.hid hall
    clear hall
    by_cases hlt : k < n
    · obtain ⟨b1, o1, hA, _, hcc⟩ := rdF_all H.out (show 0 < n by omega)
      subst hA
      have q0 := hcc k hlt
      have hlt' : (k : Int) < (n : Int) := by omega
      have HB := Lib.hid (fun wx => isValue_c (f k) wx)
      clear hcc
      cases hb : inB (f k) (-1000000000000) 1000000000000 with
      | false =>
        have Hr := Lib.hid (rc_bad (u := u) (allN_bad k hlt hb))
        rw [hb] at HB
        clear hb
        generalize f k = x at *
        go_wp2_with fail
        refine (HB.out _).mono ?_; rintro e w1 ⟨rfl, rfl⟩
        go_wp2_with fail
        go_ret
        exact ⟨ret_int Hr.out.symm, rfl⟩
      | true =>
        have Hst := Lib.hid (allN_step Hall.out hb)
        rw [hb] at HB
        clear hb
        generalize f k = x at *
        go_wp2_with fail
        refine (HB.out _).mono ?_; rintro e w1 ⟨rfl, rfl⟩
        go_wp2_with fail
        go_round
        case rel => exact ⟨k + 1, by omega, by go_num, Hst.out⟩
        case measure => first | (simp [intOf]; done) | (simp [intOf]; omega)
    · obtain rfl : k = n := by omega
      cases hu : inB u 1 1000000 with
      | false =>
        have Hr := Lib.hid (rc_unit (n := k) (f := f) hu)
        rw [hu] at HU
        clear hu
        go_wp2_with fail
        refine (HU.out _).mono ?_; rintro e w1 ⟨rfl, rfl⟩
        go_wp2_with fail
        go_ret
        exact ⟨ret_int Hr.out.symm, rfl⟩
      | true =>
        have Hr := Lib.hid (rc_end Hall.out hu)
        rw [hu] at HU
        clear hu
        by_cases h2 : 200 < k
        · rw [if_pos h2] at Hr
          have h2' : (200 : Int) < (k : Int) := by omega
          go_wp2_with fail
          refine (HU.out _).mono ?_; rintro e w1 ⟨rfl, rfl⟩
          go_wp2_with fail
          go_ret
          exact ⟨ret_int Hr.out.symm, rfl⟩
        · rw [if_neg h2] at Hr
          have h2' : (k : Int) ≤ 200 := by omega
          go_wp2_with fail
          refine (HU.out _).mono ?_; rintro e w1 ⟨rfl, rfl⟩
          go_wp2_with fail
          go_ret
          exact ⟨ret_int Hr.out.symm, rfl⟩
theorem rcS_c (B : Nat) (v : Value) (n : Nat) (f : Nat → Int) (u : Int) (w : World) (h : Rd w B v n 1 (tab n f)) (hn : n ≤ 1000) :
    Calls Try.prog 117 #[v, .int .i64 u] w fun e w' => e = .returned (.int .i64 (rc n f u)) ∧ w = w' := by
  have H := Lib.hid h
  obtain ⟨A, c, rfl⟩ := rd_sl h
  have HU := Lib.hid (fun wx => l17Unit_c u wx)
  clear h
  go_enter Try.func117, Try.ntmps117
  go_wp2_with fail
  go_loop [5] (fun i => ∃ k : Nat, k ≤ n ∧ i = .int .i64 (k : Int) ∧ allN k (fun i => inB (f i) (-1000000000000) 1000000000000) = true) (fun i => n - (intOf i).toNat)
  case atStart => exact ⟨0, Nat.zero_le _, rfl, rfl⟩
  case round =>
    obtain ⟨k, hk, rfl, hall⟩ := hrel
    have Hall := Lib.hid hall
    clear hall
    by_cases hlt : k < n
    · obtain ⟨b1, o1, hA, _, hcc⟩ := rdF_all H.out (show 0 < n by omega)
      subst hA
      have q0 := hcc k hlt
      have hlt' : (k : Int) < (n : Int) := by omega
      have HB := Lib.hid (fun wx => l17Most_c (f k) wx)
      clear hcc
      cases hb : inB (f k) (-1000000000000) 1000000000000 with
      | false =>
        have Hr := Lib.hid (rc_bad (u := u) (allN_bad k hlt hb))
        rw [hb] at HB
        clear hb
        generalize f k = x at *
        go_wp2_with fail
        refine (HB.out _).mono ?_; rintro e w1 ⟨rfl, rfl⟩
        go_wp2_with fail
        go_ret
        exact ⟨ret_int Hr.out.symm, rfl⟩
      | true =>
        have Hst := Lib.hid (allN_step Hall.out hb)
        rw [hb] at HB
        clear hb
        generalize f k = x at *
        go_wp2_with fail
        refine (HB.out _).mono ?_; rintro e w1 ⟨rfl, rfl⟩
        go_wp2_with fail
        go_round
        case rel => exact ⟨k + 1, by omega, by go_num, Hst.out⟩
        case measure => first | (simp [intOf]; done) | (simp [intOf]; omega)
    · obtain rfl : k = n := by omega
      cases hu : inB u 1 1000000 with
      | false =>
        have Hr := Lib.hid (rc_unit (n := k) (f := f) hu)
        rw [hu] at HU
        clear hu
        go_wp2_with fail
        refine (HU.out _).mono ?_; rintro e w1 ⟨rfl, rfl⟩
        go_wp2_with fail
        go_ret
        exact ⟨ret_int Hr.out.symm, rfl⟩
      | true =>
        have Hr := Lib.hid (rc_end Hall.out hu)
        rw [hu] at HU
        clear hu
        by_cases h2 : 200 < k
        · rw [if_pos h2] at Hr
          have h2' : (200 : Int) < (k : Int) := by omega
          go_wp2_with fail
          refine (HU.out _).mono ?_; rintro e w1 ⟨rfl, rfl⟩
          go_wp2_with fail
          go_ret
          exact ⟨ret_int Hr.out.symm, rfl⟩
        · rw [if_neg h2] at Hr
          have h2' : (k : Int) ≤ 200 := by omega
          go_wp2_with fail
          refine (HU.out _).mono ?_; rintro e w1 ⟨rfl, rfl⟩
          go_wp2_with fail
          go_ret
          exact ⟨ret_int Hr.out.symm, rfl⟩
theorem slipsI_c (B : Nat) (v : Value) (n : Nat) (f : Nat → Int) (w : World) (h : Rd w B v n 1 (tab n f)) (hn : n ≤ 1000) :
    Calls Try.prog 95 #[v] w fun e w' => e = .returned (.bool (slipB n f)) ∧ w = w' := by
  have H := Lib.hid h
  obtain ⟨A, c, rfl⟩ := rd_sl h
  have HU := Lib.hid (fun wx => between_any (n : Int) 1 9 wx)
  clear h
  go_enter Try.func95, Try.ntmps95
  go_wp2_with fail
  go_loop [7] (fun i => ∃ k : Nat, k ≤ n ∧ i = .int .i64 (k : Int) ∧ allN k (fun i => inB (f i) 0 1000000) = true) (fun i => n - (intOf i).toNat)
  case atStart => exact ⟨0, Nat.zero_le _, rfl, rfl⟩
  case round =>
    obtain ⟨k, hk, rfl, hall⟩ := hrel
    have Hall := Lib.hid hall
    clear hall
    by_cases hlt : k < n
    · obtain ⟨b1, o1, hA, _, hcc⟩ := rdF_all H.out (show 0 < n by omega)
      subst hA
      have q0 := hcc k hlt
      have hlt' : (k : Int) < (n : Int) := by omega
      have HB := Lib.hid (fun wx => isSlip_c (f k) wx)
      clear hcc
      cases hb : inB (f k) 0 1000000 with
      | false =>
        have Hr := Lib.hid (slipB_bad (allN_bad k hlt hb))
        rw [hb] at HB
        clear hb
        generalize f k = x at *
        go_wp2_with fail
        refine (HB.out _).mono ?_; rintro e w1 ⟨rfl, rfl⟩
        go_wp2_with fail
        go_ret
        exact ⟨ret_bool Hr.out.symm, rfl⟩
      | true =>
        have Hst := Lib.hid (allN_step Hall.out hb)
        rw [hb] at HB
        clear hb
        generalize f k = x at *
        go_wp2_with fail
        refine (HB.out _).mono ?_; rintro e w1 ⟨rfl, rfl⟩
        go_wp2_with fail
        go_round
        case rel => exact ⟨k + 1, by omega, by go_num, Hst.out⟩
        case measure => first | (simp [intOf]; done) | (simp [intOf]; omega)
    · obtain rfl : k = n := by omega
      have Hr := Lib.hid (slipB_end Hall.out)
      go_wp2_with fail
      refine (HU.out _).mono ?_; rintro e w1 ⟨rfl, rfl⟩
      go_wp2_with fail
      go_ret
      exact ⟨ret_bool Hr.out.symm, rfl⟩
theorem slipsS_c (B : Nat) (v : Value) (n : Nat) (f : Nat → Int) (w : World) (h : Rd w B v n 1 (tab n f)) (hn : n ≤ 1000) :
    Calls Try.prog 98 #[v] w fun e w' => e = .returned (.bool (slipB n f)) ∧ w = w' := by
  have H := Lib.hid h
  obtain ⟨A, c, rfl⟩ := rd_sl h
  have HU := Lib.hid (fun wx => l00In_any (n : Int) 1 9 wx)
  clear h
  go_enter Try.func98, Try.ntmps98
  go_wp2_with fail
  go_loop [3] (fun i => ∃ k : Nat, k ≤ n ∧ i = .int .i64 (k : Int) ∧ allN k (fun i => inB (f i) 0 1000000) = true) (fun i => n - (intOf i).toNat)
  case atStart => exact ⟨0, Nat.zero_le _, rfl, rfl⟩
  case round =>
    obtain ⟨k, hk, rfl, hall⟩ := hrel
    have Hall := Lib.hid hall
    clear hall
    by_cases hlt : k < n
    · obtain ⟨b1, o1, hA, _, hcc⟩ := rdF_all H.out (show 0 < n by omega)
      subst hA
      have q0 := hcc k hlt
      have hlt' : (k : Int) < (n : Int) := by omega
      have HB := Lib.hid (fun wx => l00In_any (f k) 0 1000000 wx)
      clear hcc
      cases hb : inB (f k) 0 1000000 with
      | false =>
        have Hr := Lib.hid (slipB_bad (allN_bad k hlt hb))
        rw [hb] at HB
        clear hb
        generalize f k = x at *
        go_wp2_with fail
        refine (HB.out _).mono ?_; rintro e w1 ⟨rfl, rfl⟩
        go_wp2_with fail
        go_ret
        exact ⟨ret_bool Hr.out.symm, rfl⟩
      | true =>
        have Hst := Lib.hid (allN_step Hall.out hb)
        rw [hb] at HB
        clear hb
        generalize f k = x at *
        go_wp2_with fail
        refine (HB.out _).mono ?_; rintro e w1 ⟨rfl, rfl⟩
        go_wp2_with fail
        go_round
        case rel => exact ⟨k + 1, by omega, by go_num, Hst.out⟩
        case measure => first | (simp [intOf]; done) | (simp [intOf]; omega)
    · obtain rfl : k = n := by omega
      have Hr := Lib.hid (slipB_end Hall.out)
      go_wp2_with fail
      refine (HU.out _).mono ?_; rintro e w1 ⟨rfl, rfl⟩
      go_wp2_with fail
      go_ret
      exact ⟨ret_bool Hr.out.symm, rfl⟩
end Go.Proofs.Ytdljlemgaefbpaa
