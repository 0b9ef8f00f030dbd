/- Errors of tables, part 1: small tests, and values rounded to units. -/
import Derived.Test.YtdljlemgaefbpaaRo1
import Derived.Test.YtdljlemgaefbpaaDf3
import Derived.Test.YtdljlemgaefbpaaLib5
namespace Go.Proofs.Ytdljlemgaefbpaa
open Go.RowKit Go.Joins

theorem isValue_c (x : Int) (w : World) : Calls Try.prog 109 #[.int .i64 x] w fun e w' => e = .returned (.bool (inB x (-1000000000000) 1000000000000)) ∧ w = w' := by
  have HB := Lib.hid (fun wx => between_any x (-1000000000000) 1000000000000 wx)
  go_enter Try.func109, Try.ntmps109
  go_wp2_with fail
  refine (HB.out _).mono ?_; rintro e w1 ⟨rfl, rfl⟩
  go_wp2_with fail
  go_ret
  exact ⟨rfl, rfl⟩
theorem isUnit_c (x : Int) (w : World) : Calls Try.prog 110 #[.int .i64 x] w fun e w' => e = .returned (.bool (inB x 1 1000000)) ∧ w = w' := by
  have HB := Lib.hid (fun wx => between_any x 1 1000000 wx)
  go_enter Try.func110, Try.ntmps110
  go_wp2_with fail
  refine (HB.out _).mono ?_; rintro e w1 ⟨rfl, rfl⟩
  go_wp2_with fail
  go_ret
  exact ⟨rfl, rfl⟩
theorem isOrder_c (x : Int) (w : World) : Calls Try.prog 104 #[.int .i64 x] w fun e w' => e = .returned (.bool (inB x 0 8)) ∧ w = w' := by
  have HB := Lib.hid (fun wx => between_any x 0 8 wx)
  go_enter Try.func104, Try.ntmps104
  go_wp2_with fail
  refine (HB.out _).mono ?_; rintro e w1 ⟨rfl, rfl⟩
  go_wp2_with fail
  go_ret
  exact ⟨rfl, rfl⟩
theorem isSlip_c (x : Int) (w : World) : Calls Try.prog 121 #[.int .i64 x] w fun e w' => e = .returned (.bool (inB x 0 1000000)) ∧ w = w' := by
  have HB := Lib.hid (fun wx => between_any x 0 1000000 wx)
  go_enter Try.func121, Try.ntmps121
  go_wp2_with fail
  refine (HB.out _).mono ?_; rintro e w1 ⟨rfl, rfl⟩
  go_wp2_with fail
  go_ret
  exact ⟨rfl, rfl⟩
theorem isStepCount_c (x : Int) (w : World) : Calls Try.prog 102 #[.int .i64 x] w fun e w' => e = .returned (.bool (inB x 0 100000)) ∧ w = w' := by
  have HB := Lib.hid (fun wx => between_any x 0 100000 wx)
  go_enter Try.func102, Try.ntmps102
  go_wp2_with fail
  refine (HB.out _).mono ?_; rintro e w1 ⟨rfl, rfl⟩
  go_wp2_with fail
  go_ret
  exact ⟨rfl, rfl⟩
theorem isBase_c (x : Int) (w : World) : Calls Try.prog 105 #[.int .i64 x] w fun e w' => e = .returned (.bool (inB x 2 16)) ∧ w = w' := by
  have HB := Lib.hid (fun wx => between_any x 2 16 wx)
  go_enter Try.func105, Try.ntmps105
  go_wp2_with fail
  refine (HB.out _).mono ?_; rintro e w1 ⟨rfl, rfl⟩
  go_wp2_with fail
  go_ret
  exact ⟨rfl, rfl⟩
theorem l17Most_c (x : Int) (w : World) : Calls Try.prog 112 #[.int .i64 x] w fun e w' => e = .returned (.bool (inB x (-1000000000000) 1000000000000)) ∧ w = w' := by
  have HB := Lib.hid (fun wx => l00In_any x (-1000000000000) 1000000000000 wx)
  go_enter Try.func112, Try.ntmps112
  go_wp2_with fail
  refine (HB.out _).mono ?_; rintro e w1 ⟨rfl, rfl⟩
  go_wp2_with fail
  go_ret
  exact ⟨rfl, rfl⟩
theorem l17Unit_c (x : Int) (w : World) : Calls Try.prog 113 #[.int .i64 x] w fun e w' => e = .returned (.bool (inB x 1 1000000)) ∧ w = w' := by
  have HB := Lib.hid (fun wx => l00In_any x 1 1000000 wx)
  go_enter Try.func113, Try.ntmps113
  go_wp2_with fail
  refine (HB.out _).mono ?_; rintro e w1 ⟨rfl, rfl⟩
  go_wp2_with fail
  go_ret
  exact ⟨rfl, rfl⟩
theorem l02Base_c (x : Int) (w : World) : Calls Try.prog 106 #[.int .i64 x] w fun e w' => e = .returned (.bool (inB x 2 16)) ∧ w = w' := by
  have HB := Lib.hid (fun wx => l00In_any x 2 16 wx)
  go_enter Try.func106, Try.ntmps106
  go_wp2_with fail
  refine (HB.out _).mono ?_; rintro e w1 ⟨rfl, rfl⟩
  go_wp2_with fail
  go_ret
  exact ⟨rfl, rfl⟩
theorem l17Order_c (a b : Int) (w : World) : Calls Try.prog 122 #[.int .i64 a, .int .i64 b] w fun e w' => e = .returned (.int .i64 (if inB a 0 8 && inB b 0 1000000 then 0 else 2)) ∧ w = w' := by
  have HB := Lib.hid (fun wx => l00In_any a 0 8 wx)
  have HB2 := Lib.hid (fun wx => l00In_any b 0 1000000 wx)
  cases h1 : inB a 0 8 <;> cases h2 : inB b 0 1000000 <;> rw [h1] at HB <;> rw [h2] at HB2 <;> clear h1 h2
  all_goals
    go_enter Try.func122, Try.ntmps122
    go_wp2_with fail
    (refine (HB.out _).mono ?_; rintro e w1 ⟨rfl, rfl⟩)
    go_wp2_with fail
    try (refine (HB2.out _).mono ?_; rintro e w1 ⟨rfl, rfl⟩)
    try go_wp2_with fail
    go_ret
    exact ⟨rfl, rfl⟩
theorem l00Max_c (a b : Int) (w : World) : Calls Try.prog 119 #[.int .i64 a, .int .i64 b] w fun e w' => e = .returned (.int .i64 (max a b)) ∧ w = w' := by
  by_cases h : b < a
  · have e : max a b = a := by omega
    rw [e]
    go_enter Try.func119, Try.ntmps119
    go_wp2_with fail
    go_ret
    exact ⟨rfl, rfl⟩
  · have e : max a b = b := by omega
    rw [e]
    go_enter Try.func119, Try.ntmps119
    go_wp2_with fail
    go_ret
    exact ⟨rfl, rfl⟩
theorem l00Min_c (a b : Int) (w : World) : Calls Try.prog 166 #[.int .i64 a, .int .i64 b] w fun e w' => e = .returned (.int .i64 (min a b)) ∧ w = w' := by
  by_cases h : a < b
  · have e : min a b = a := by omega
    rw [e]
    go_enter Try.func166, Try.ntmps166
    go_wp2_with fail
    go_ret
    exact ⟨rfl, rfl⟩
  · have e : min a b = b := by omega
    rw [e]
    go_enter Try.func166, Try.ntmps166
    go_wp2_with fail
    go_ret
    exact ⟨rfl, rfl⟩
theorem l03Size_c (x : Int) (w : World) (h1 : -4611686018427387904 ≤ x) (h2 : x ≤ 4611686018427387904) : Calls Try.prog 120 #[.int .i64 x] w fun e w' => e = .returned (.int .i64 (x.natAbs : Int)) ∧ w = w' := by
  have HM := Lib.hid (fun wx => l00Max_c x (-x) wx)
  have e : max x (-x) = (x.natAbs : Int) := by omega
  rw [e] at HM
  clear e
  go_enter Try.func120, Try.ntmps120
  go_wp2_with fail
  refine (HM.out _).mono ?_; rintro e w1 ⟨rfl, rfl⟩
  go_wp2_with fail
  go_ret
  exact ⟨rfl, rfl⟩

theorem td_bd {a b : Int} (_hb : 1 ≤ b) (h : -4611686018427387904 ≤ a ∧ a ≤ 4611686018427387904) : -4611686018427387904 ≤ a.tdiv b ∧ a.tdiv b ≤ 4611686018427387904 := by
  have h1 : (a.tdiv b).natAbs ≤ a.natAbs := by rw [Int.natAbs_tdiv]; exact Nat.div_le_self _ _
  omega
theorem floorDiv_c (a b : Int) (w : World) (hb : 1 ≤ b) (hbm : b ≤ 4611686018427387904) (h1 : -4611686018427387904 ≤ a) (h2 : a ≤ 4611686018427387904) :
    Calls Try.prog 167 #[.int .i64 a, .int .i64 b] w fun e w' => e = .returned (.int .i64 (a / b)) ∧ w = w' := by
  have hq := td_bd hb ⟨h1, h2⟩
  have Hf := Lib.hid (fl_div (a := a) (b := b) (by omega))
  have hb0 : (b == 0) = false := by simp; omega
  by_cases ht : a.tmod b < 0
  · rw [if_pos ht] at Hf
    go_enter Try.func167, Try.ntmps167
    go_wp2_with fail
    go_ret
    exact ⟨ret_int Hf.out, rfl⟩
  · rw [if_neg ht] at Hf
    go_enter Try.func167, Try.ntmps167
    go_wp2_with fail
    go_ret
    exact ⟨ret_int Hf.out, rfl⟩
theorem units_c (v u : Int) (w : World) (hv : -1000000000000 ≤ v ∧ v ≤ 1000000000000) (hu : 1 ≤ u ∧ u ≤ 1000000) :
    Calls Try.prog 111 #[.int .i64 v, .int .i64 u] w fun e w' => e = .returned (.int .i64 (ru v u)) ∧ w = w' := by
  have HF := Lib.hid (fun wx => floorDiv_c (2 * v + u) (2 * u) wx (by omega) (by omega) (by omega) (by omega))
  obtain ⟨hv1, hv2⟩ := hv
  obtain ⟨hu1, hu2⟩ := hu
  go_enter Try.func111, Try.ntmps111
  go_wp2_with fail
  refine (HF.out _).mono ?_; rintro e w1 ⟨rfl, rfl⟩
  go_wp2_with fail
  go_ret
  exact ⟨rfl, rfl⟩
theorem l17Round_c (v u : Int) (w : World) (hv : -1000000000000 ≤ v ∧ v ≤ 1000000000000) (hu : 1 ≤ u ∧ u ≤ 1000000) :
    Calls Try.prog 114 #[.int .i64 v, .int .i64 u] w fun e w' => e = .returned (.int .i64 (ru v u)) ∧ w = w' := by
  obtain ⟨hv1, hv2⟩ := hv
  obtain ⟨hu1, hu2⟩ := hu
  have hq := td_bd (a := 2 * v + u) (b := 2 * u) (by omega) (by omega)
  have Hf := Lib.hid (show _ = ru v u from fl_div (a := 2 * v + u) (b := 2 * u) (by omega))
  have hb0 : (2 * u == 0) = false := by simp; omega
  by_cases ht : (2 * v + u).tmod (2 * u) < 0
  · rw [if_pos ht] at Hf
    go_enter Try.func114, Try.ntmps114
    go_wp2_with fail
    go_ret
    exact ⟨ret_int Hf.out, rfl⟩
  · rw [if_neg ht] at Hf
    go_enter Try.func114, Try.ntmps114
    go_wp2_with fail
    go_ret
    exact ⟨ret_int Hf.out, rfl⟩

def okU (v u : Int) : Bool := inB v (-1000000000000) 1000000000000 && inB u 1 1000000
def rV (v u : Int) : Int := if okU v u then (if 1000000000000 < ru v u * u then 0 else ru v u * u) else 0
def rE (v u : Int) : Int := if okU v u then (if 1000000000000 < ru v u * u then 5 else 0) else 2
theorem inB_iff {n a b : Int} : inB n a b = true ↔ a ≤ n ∧ n ≤ b := by simp [inB]
theorem inB_not {n a b : Int} : inB n a b = false ↔ ¬ (a ≤ n ∧ n ≤ b) := by rw [← inB_iff]; simp
theorem RoundToI_c (v u : Int) (w : World) : Calls Try.prog 33 #[.int .i64 v, .int .i64 u] w fun e w' => e = .returned (.tuple #[.int .i64 (rV v u), .int .i64 (rE v u)]) ∧ w = w' := by
  have HV := Lib.hid (fun wx => isValue_c v wx)
  have HU := Lib.hid (fun wx => isUnit_c u wx)
  unfold rV rE okU
  by_cases h1 : inB v (-1000000000000) 1000000000000 = true
  · by_cases h2 : inB u 1 1000000 = true
    · rw [h1] at HV
      rw [h2] at HU
      rw [h1, h2]
      rw [inB_iff] at h1 h2
      have HR := Lib.hid (fun wx => units_c v u wx h1 h2)
      obtain ⟨b1, b2⟩ := ru_bd (v := v) (u := u) (by omega)
      generalize ru v u = r at *
      obtain ⟨P, hP⟩ : ∃ P, r * u = P := ⟨_, rfl⟩
      rw [hP] at b1 b2 ⊢
      have hw : IntKind.i64.wrap (r * u) = P := by rw [hP]; exact IntWalk.i64_in _ (by omega)
      clear hP
      by_cases hc : 1000000000000 < P
      all_goals
        simp only [hc, Bool.and_self, if_true, if_false]
        go_enter Try.func33, Try.ntmps33
        go_wp2_with fail
        refine (HV.out _).mono ?_; rintro e w1 ⟨rfl, rfl⟩
        go_wp2_with fail
        refine (HU.out _).mono ?_; rintro e w1 ⟨rfl, rfl⟩
        go_wp2_with fail
        refine (HR.out _).mono ?_; rintro e w1 ⟨rfl, rfl⟩
        go_wp2_with fail
        go_ret2
        exact ⟨rfl, rfl⟩
    · have h2 : inB u 1 1000000 = false := by simpa using h2
      rw [h1] at HV
      rw [h2] at HU
      rw [h2, Bool.and_false]
      clear h1 h2
      go_enter Try.func33, Try.ntmps33
      go_wp2_with fail
      refine (HV.out _).mono ?_; rintro e w1 ⟨rfl, rfl⟩
      go_wp2_with fail
      refine (HU.out _).mono ?_; rintro e w1 ⟨rfl, rfl⟩
      go_wp2_with fail
      go_ret2
      exact ⟨rfl, rfl⟩
  · have h1 : inB v (-1000000000000) 1000000000000 = false := by simpa using h1
    rw [h1] at HV
    rw [h1, Bool.false_and]
    clear h1
    go_enter Try.func33, Try.ntmps33
    go_wp2_with fail
    refine (HV.out _).mono ?_; rintro e w1 ⟨rfl, rfl⟩
    go_wp2_with fail
    go_ret2
    exact ⟨rfl, rfl⟩
theorem RoundToS_c (v u : Int) (w : World) : Calls Try.prog 34 #[.int .i64 v, .int .i64 u] w fun e w' => e = .returned (.tuple #[.int .i64 (rV v u), .int .i64 (rE v u)]) ∧ w = w' := by
  have HV := Lib.hid (fun wx => l17Most_c v wx)
  have HU := Lib.hid (fun wx => l17Unit_c u wx)
  unfold rV rE okU
  by_cases h1 : inB v (-1000000000000) 1000000000000 = true
  · by_cases h2 : inB u 1 1000000 = true
    · rw [h1] at HV
      rw [h2] at HU
      rw [h1, h2]
      rw [inB_iff] at h1 h2
      have HR := Lib.hid (fun wx => l17Round_c v u wx h1 h2)
      obtain ⟨b1, b2⟩ := ru_bd (v := v) (u := u) (by omega)
      generalize ru v u = r at *
      obtain ⟨P, hP⟩ : ∃ P, r * u = P := ⟨_, rfl⟩
      rw [hP] at b1 b2 ⊢
      have hw : IntKind.i64.wrap (u * r) = P := by rw [Int.mul_comm, hP]; exact IntWalk.i64_in _ (by omega)
      clear hP
      by_cases hc : 1000000000000 < P
      all_goals
        simp only [hc, Bool.and_self, if_true, if_false]
        go_enter Try.func34, Try.ntmps34
        go_wp2_with fail
        refine (HV.out _).mono ?_; rintro e w1 ⟨rfl, rfl⟩
        go_wp2_with fail
        refine (HU.out _).mono ?_; rintro e w1 ⟨rfl, rfl⟩
        go_wp2_with fail
        refine (HR.out _).mono ?_; rintro e w1 ⟨rfl, rfl⟩
        go_wp2_with fail
        go_ret2
        exact ⟨rfl, rfl⟩
    · have h2 : inB u 1 1000000 = false := by simpa using h2
      rw [h1] at HV
      rw [h2] at HU
      rw [h2, Bool.and_false]
      clear h1 h2
      go_enter Try.func34, Try.ntmps34
      go_wp2_with fail
      refine (HV.out _).mono ?_; rintro e w1 ⟨rfl, rfl⟩
      go_wp2_with fail
      refine (HU.out _).mono ?_; rintro e w1 ⟨rfl, rfl⟩
      go_wp2_with fail
      go_ret2
      exact ⟨rfl, rfl⟩
  · have h1 : inB v (-1000000000000) 1000000000000 = false := by simpa using h1
    rw [h1] at HV
    rw [h1, Bool.false_and]
    clear h1
    go_enter Try.func34, Try.ntmps34
    go_wp2_with fail
    refine (HV.out _).mono ?_; rintro e w1 ⟨rfl, rfl⟩
    go_wp2_with fail
    go_ret2
    exact ⟨rfl, rfl⟩
end Go.Proofs.Ytdljlemgaefbpaa
