/- Differences, part 3: tests of entries, Newton's values, binomial coefficients. -/
import Derived.Test.YtfaoilonkonmkaaDf2
namespace Go.Proofs.Ytfaoilonkonmkaa
open Go.RowKit Go.Joins

theorem inB_true {n lo hi : Int} (h1 : lo ≤ n) (h2 : n ≤ hi) : inB n lo hi = true := by simp [inB, h1, h2]

set_option maxRecDepth 100000 in
set_option maxHeartbeats 800000 in
theorem areEntries_any (B : Nat) (v : Value) (n : Nat) (most : Int) (f : Nat → Int) (w : World) (h : Rd w B v n 1 (tab n f)) (hn : n ≤ 1000) (h1 : 1 ≤ n) (h2 : (n : Int) ≤ most) (hS : Small 1000000000 n f) :
    Calls Try.prog 159 #[v, .int .i64 most] w fun e w' => e = .returned (.bool true) ∧ w = w' := by
  have H := Lib.hid h
  have HS := Lib.hid hS
  obtain ⟨A, c, rfl⟩ := rd_sl h
  clear h hS
  go_enter Try.func159, Try.ntmps159
  go_wp2_with fail
  go_loop [9] (fun i => ∃ k : Nat, k ≤ n ∧ i = .int .i64 (k : Int)) (fun i => n - (intOf i).toNat)
  case atStart => exact ⟨0, Nat.zero_le _, rfl⟩
  case round =>
    obtain ⟨k, hk, rfl⟩ := hrel
    by_cases hlt : k < n
    · obtain ⟨b1, o1, hA, _, hcc⟩ := rdF_all H.out h1
      subst hA
      have q0 := hcc k hlt
      have s0 := HS.out k hlt
      have hlt' : (k : Int) < (n : Int) := by omega
      generalize f k = x at *
      have HB := Lib.hid (fun wx => between_any x (-1000000000) 1000000000 wx)
      rw [inB_true (by omega) (by omega)] at HB
      clear hcc
      go_wp2_with fail
      refine (HB.out _).mono ?_; rintro e w1 ⟨rfl, rfl⟩
      go_wp2_with fail
      go_round
      case rel => exact ⟨k + 1, by omega, by go_num⟩
      case measure => simp [intOf]; omega
    · have hlt' : (n : Int) ≤ (k : Int) := by omega
      have h1' : (1 : Int) ≤ (n : Int) := by omega
      go_wp2_with fail
      go_ret
      exact ⟨rfl, rfl⟩
theorem areCoefs_any (B : Nat) (v : Value) (n : Nat) (f : Nat → Int) (w : World) (h : Rd w B v n 1 (tab n f)) (h1 : 1 ≤ n) (h2 : n ≤ 9) (hS : Small 1000000000 n f) :
    Calls Try.prog 118 #[v] w fun e w' => e = .returned (.bool true) ∧ w = w' := by
  have HE := Lib.hid (areEntries_any B v n 9 f w h (by omega) h1 (by omega) hS)
  obtain ⟨A, c, rfl⟩ := rd_sl h
  clear h hS
  go_enter Try.func118, Try.ntmps118
  go_wp2_with fail
  refine HE.out.mono ?_; rintro e w1 ⟨rfl, rfl⟩
  go_wp2_with fail
  go_ret
  exact ⟨rfl, rfl⟩
theorem isFar_any (x : Int) (w : World) (h1 : -1000000000000000 ≤ x) (h2 : x ≤ 1000000000000000) :
    Calls Try.prog 119 #[.int .i64 x] w fun e w' => e = .returned (.bool false) ∧ w = w' := by
  have HB := Lib.hid (fun wx => between_any x (-1000000000000000) 1000000000000000 wx)
  rw [inB_true h1 h2] at HB
  go_enter Try.func119, Try.ntmps119
  go_wp2_with fail
  refine (HB.out _).mono ?_; rintro e w1 ⟨rfl, rfl⟩
  go_wp2_with fail
  go_ret
  exact ⟨rfl, rfl⟩
theorem l15In_any (x : Int) (w : World) (h1 : -1000000000000000 ≤ x) (h2 : x ≤ 1000000000000000) :
    Calls Try.prog 163 #[.int .i64 x] w fun e w' => e = .returned (.bool true) ∧ w = w' := by
  have HB := Lib.hid (fun wx => l00In_any x (-1000000000000000) 1000000000000000 wx)
  rw [inB_true h1 h2] at HB
  go_enter Try.func163, Try.ntmps163
  go_wp2_with fail
  refine (HB.out _).mono ?_; rintro e w1 ⟨rfl, rfl⟩
  go_wp2_with fail
  go_ret
  exact ⟨rfl, rfl⟩

set_option maxRecDepth 100000 in
set_option maxHeartbeats 800000 in
theorem l15Entries_any (B : Nat) (v : Value) (n : Nat) (f : Nat → Int) (w : World) (h : Rd w B v n 1 (tab n f)) (hn : n ≤ 1000) (h1 : 1 ≤ n) (hS : Small 1000000000 n f) :
    Calls Try.prog 161 #[v] w fun e w' => e = .returned (.bool true) ∧ w = w' := by
  have H := Lib.hid h
  have HS := Lib.hid hS
  obtain ⟨A, c, rfl⟩ := rd_sl h
  clear h hS
  go_enter Try.func161, Try.ntmps161
  go_wp2_with fail
  go_loop [3] (fun i => ∃ k : Nat, k ≤ n ∧ i = .int .i64 (k : Int)) (fun i => n - (intOf i).toNat)
  case atStart => exact ⟨0, Nat.zero_le _, rfl⟩
  case round =>
    obtain ⟨k, hk, rfl⟩ := hrel
    by_cases hlt : k < n
    · obtain ⟨b1, o1, hA, _, hcc⟩ := rdF_all H.out h1
      subst hA
      have q0 := hcc k hlt
      have s0 := HS.out k hlt
      have hlt' : (k : Int) < (n : Int) := by omega
      generalize f k = x at *
      have HB := Lib.hid (fun wx => l00In_any x (-1000000000) 1000000000 wx)
      rw [inB_true (by omega) (by omega)] at HB
      clear hcc
      go_wp2_with fail
      refine (HB.out _).mono ?_; rintro e w1 ⟨rfl, rfl⟩
      go_wp2_with fail
      go_round
      case rel => exact ⟨k + 1, by omega, by go_num⟩
      case measure => simp [intOf]; omega
    · have hlt' : (n : Int) ≤ (k : Int) := by omega
      go_wp2_with fail
      go_ret
      exact ⟨rfl, rfl⟩
theorem l15Coefs_any (B : Nat) (v : Value) (n : Nat) (f : Nat → Int) (w : World) (h : Rd w B v n 1 (tab n f)) (h1 : 1 ≤ n) (h2 : n ≤ 9) (hS : Small 1000000000 n f) :
    Calls Try.prog 121 #[v] w fun e w' => e = .returned (.bool true) ∧ w = w' := by
  have HE := Lib.hid (l15Entries_any B v n f w h (by omega) h1 hS)
  have HB := Lib.hid (fun wx => l00In_any (n : Int) 1 9 wx)
  rw [inB_true (by omega) (by omega)] at HB
  obtain ⟨A, c, rfl⟩ := rd_sl h
  clear h hS
  go_enter Try.func121, Try.ntmps121
  go_wp2_with fail
  refine (HB.out _).mono ?_; rintro e w1 ⟨rfl, rfl⟩
  go_wp2_with fail
  refine HE.out.mono ?_; rintro e w1 ⟨rfl, rfl⟩
  go_wp2_with fail
  go_ret
  exact ⟨rfl, rfl⟩
theorem l04Size_any (x : Int) (w : World) (h1 : -1000000000000000 ≤ x) (h2 : x ≤ 1000000000000000) :
    Calls Try.prog 162 #[.int .i64 x] w fun e w' => e = .returned (.int .i64 (x.natAbs : Int)) ∧ w = w' := by
  by_cases h : x < 0
  · have hw : IntKind.i64.wrap (-x) = -x := IntWalk.i64_in _ (by omega)
    go_enter Try.func162, Try.ntmps162
    go_wp2_with fail
    go_ret
    exact ⟨ret_int (by omega), rfl⟩
  · go_enter Try.func162, Try.ntmps162
    go_wp2_with fail
    go_ret
    exact ⟨ret_int (by omega), rfl⟩

/-- the binomial coefficients as the code makes them -/
def chb (x : Nat) : Nat → Nat
  | 0 => 1
  | k + 1 => if k < x then chb x k * (x - k) / (k + 1) else 0
theorem chb_bd : ∀ x, x < 14 → ∀ k, k < 10 → chb x k ≤ 1716 := by decide +kernel
def nval (f : Nat → Int) (x : Nat) : Nat → Int
  | 0 => 0
  | j + 1 => nval f x j + f j * (chb x j : Int)
theorem mul_bd {a : Int} {C : Nat} (h : -(C : Int) ≤ a ∧ a ≤ C) (b M : Nat) (hb : b ≤ M) : -((C * M : Nat) : Int) ≤ a * (b : Int) ∧ a * (b : Int) ≤ ((C * M : Nat) : Int) := by
  have h1 : a.natAbs ≤ C := by omega
  have h2 : (a * (b : Int)).natAbs ≤ C * M := by
    rw [Int.natAbs_mul, Int.natAbs_natCast]
    exact Nat.mul_le_mul h1 hb
  omega
theorem nval_bd {f : Nat → Int} {C n x : Nat} (hS : Small C n f) (hx : x < 14) (hn : n ≤ 9) : ∀ j, j ≤ n → -((j * (C * 1716) : Nat) : Int) ≤ nval f x j ∧ nval f x j ≤ ((j * (C * 1716) : Nat) : Int)
  | 0, _ => by simp [nval]
  | j + 1, hj => by
    have h1 := nval_bd hS hx hn j (by omega)
    have h2 := mul_bd (hS j (by omega)) (chb x j) 1716 (chb_bd x hx j (by omega))
    show _ ≤ nval f x j + f j * (chb x j : Int) ∧ nval f x j + f j * (chb x j : Int) ≤ _
    rw [Nat.add_mul, Nat.one_mul]
    omega

theorem l15Times_any (a b c : Nat) (w : World) (ha : a ≤ 1716) (hb : b ≤ 13) (hc : 0 < c) (hc2 : c ≤ 1000) :
    Calls Try.prog 164 #[.int .i64 (a : Int), .int .i64 (b : Int), .int .i64 (c : Int)] w fun e w' => e = .returned (.int .i64 ((a * b / c : Nat) : Int)) ∧ w = w' := by
  obtain ⟨P, hP⟩ : ∃ P, P = a * b := ⟨_, rfl⟩
  have hPb : P ≤ 1716 * 13 := by rw [hP]; exact Nat.mul_le_mul ha hb
  have hPi : (a : Int) * (b : Int) = (P : Int) := by rw [hP, Int.natCast_mul]
  have hw1 : IntKind.i64.wrap (P : Int) = (P : Int) := IntWalk.i64_in _ (by omega)
  have hc0 : (c : Int) ≠ 0 := by omega
  rw [← hP]
  have hq := Nat.div_le_self P c
  have hdi : wrap64 ((P : Int) / (c : Int)) = ((P / c : Nat) : Int) := by
    have h0 : (0 : Int) ≤ ((P / c : Nat) : Int) := Int.natCast_nonneg _
    exact IntWalk.wrap64_in _ ⟨by omega, by omega⟩
  have Hdi := Lib.hid hdi
  clear hP hdi hq
  go_enter Try.func164, Try.ntmps164
  go_wp2_with fail
  go_ret
  exact ⟨ret_int Hdi.out, rfl⟩

theorem quo_bd (c : Int) (h0 : c ≠ 0) (h1 : -1000000 ≤ c ∧ c ≤ 1000000) : (1000000000 : Int) ≤ (1000000000000000 : Int) / (c.natAbs : Int) := by
  have h2 : (0 : Int) < (c.natAbs : Int) := by omega
  rw [Int.le_ediv_iff_mul_le h2]
  omega

set_option maxRecDepth 100000 in
set_option maxHeartbeats 1600000 in
theorem l15Value_any (B : Nat) (v : Value) (n C x : Nat) (f : Nat → Int) (w : World) (h : Rd w B v n 1 (tab n f)) (h1 : 1 ≤ n) (h2 : n ≤ 9) (hx : x < 14) (hS : Small C n f) (hC : C ≤ 1000000) :
    Calls Try.prog 123 #[v, .int .i64 (x : Int)] w fun e w' => e = .returned (.tuple #[.int .i64 (nval f x n), .bool true]) ∧ w = w' := by
  have H := Lib.hid h
  have HS := Lib.hid hS
  have HN := Lib.hid (fun j hj => nval_bd hS hx h2 j hj)
  obtain ⟨A, c, rfl⟩ := rd_sl h
  clear h hS
  go_enter Try.func123, Try.ntmps123
  go_wp2_with fail
  go_loop [6, 7, 8] (fun a b i => ∃ j : Nat, j ≤ n ∧ i = .int .i64 (j : Int) ∧ a = .int .i64 (nval f x j) ∧ b = .int .i64 (chb x j : Int)) (fun _ _ i => n - (intOf i).toNat)
  case atStart => exact ⟨0, Nat.zero_le _, rfl, rfl, rfl⟩
  case round =>
    obtain ⟨j, hj, rfl, rfl, rfl⟩ := hrel
    by_cases hlt : j < n
    · obtain ⟨b1, o1, hA, _, hcc⟩ := rdF_all H.out h1
      subst hA
      have q0 := hcc j hlt
      have s0 := HS.out j hlt
      have n0 := HN.out j hj
      have n1 := HN.out (j + 1) (by omega)
      have c0 := chb_bd x hx j (by omega)
      have m0 := mul_bd s0 (chb x j) 1716 c0
      have hk : j * (C * 1716) ≤ 9 * (1000000 * 1716) := Nat.mul_le_mul (by omega) (Nat.mul_le_mul_right _ hC)
      have hk1 : (j + 1) * (C * 1716) ≤ 9 * (1000000 * 1716) := Nat.mul_le_mul (by omega) (Nat.mul_le_mul_right _ hC)
      have Hn := Lib.hid (show nval f x (j + 1) = nval f x j + f j * (chb x j : Int) from rfl)
      have Hc := Lib.hid (show chb x (j + 1) = if j < x then chb x j * (x - j) / (j + 1) else 0 from rfl)
      rw [Hn.out] at n1
      have hlt' : (j : Int) < (n : Int) := by omega
      have hC' : C * 1716 ≤ 1000000 * 1716 := Nat.mul_le_mul_right _ hC
      generalize f j = y at *
      generalize nval f x j = s at *
      generalize chb x j = ch at *
      clear hcc
      have HT := Lib.hid (fun (hxx : j < x) wx => l15Times_any ch (x - j) (j + 1) wx c0 (by omega) (by omega) (by omega))
      by_cases hy : y = 0
      · subst hy
        rw [show (0 : Int) * (ch : Int) = 0 from Int.zero_mul _, Int.add_zero] at Hn
        rw [show (0 : Int) * (ch : Int) = 0 from Int.zero_mul _, Int.add_zero] at n1
        have hsw : IntKind.i64.wrap s = s := IntWalk.i64_in _ (by omega)
        have HI := Lib.hid (fun wx => l15In_any s wx (by omega) (by omega))
        clear n0 n1 m0 hk hk1 hC' s0
        by_cases hjx : j < x
        · have hjx' : (j : Int) < (x : Int) := by omega
          have hsub : (x : Int) - (j : Int) = ((x - j : Nat) : Int) := by omega
          have hj1 : ((j + 1 : Nat) : Int) = (j : Int) + 1 := by omega
          have hwj : IntKind.i64.wrap (((x - j : Nat) : Int)) = ((x - j : Nat) : Int) := IntWalk.i64_in _ (by omega)
          have HT' := Lib.hid (HT.out hjx)
          rw [if_pos hjx] at Hc
          generalize hD : x - j = d at *
          have hwd : (d : Int) < 14 := by omega
          generalize hE : ch * d / (j + 1) = e1 at *
          rw [hj1] at HT'
          clear hD hE hj1 HT
          go_wp2_with fail
          refine (HI.out _).mono ?_; rintro e w1 ⟨rfl, rfl⟩
          go_wp2_with fail
          refine (HT'.out _).mono ?_; rintro e w1 ⟨rfl, rfl⟩
          go_wp2_with fail
          go_round
          case rel => exact ⟨j + 1, by omega, by go_num, by first | (rw [Hn.out]; done) | (rw [Hn.out]; rfl), by first | (rw [Hc.out]; done) | (rw [Hc.out]; rfl)⟩
          case measure => simp [intOf]; omega
        · have hjx' : ¬ ((j : Int) < (x : Int)) := by omega
          rw [if_neg hjx] at Hc
          go_wp2_with fail
          refine (HI.out _).mono ?_; rintro e w1 ⟨rfl, rfl⟩
          go_wp2_with fail
          go_round
          case rel => exact ⟨j + 1, by omega, by go_num, by first | (rw [Hn.out]; done) | (rw [Hn.out]; rfl), by first | (rw [Hc.out]; done) | (rw [Hc.out]; rfl)⟩
          case measure => simp [intOf]; omega
      · generalize hP : y * (ch : Int) = P at *
        have HI := Lib.hid (fun wx => l15In_any (s + P) wx (by omega) (by omega))
        have HZ := Lib.hid (fun wx => l04Size_any y wx (by omega) (by omega))
        have hPw : IntKind.i64.wrap P = P := IntWalk.i64_in _ (by omega)
        have hsw : IntKind.i64.wrap (s + P) = s + P := IntWalk.i64_in _ (by omega)
        have hqb := quo_bd y hy (by omega)
        have hz0 : (0 : Int) < (y.natAbs : Int) := by omega
        have hq2 := Int.ediv_le_self ((y.natAbs : Nat) : Int) (show (0 : Int) ≤ 1000000000000000 by omega)
        generalize hz : (y.natAbs : Int) = z at *
        have hz2 : z ≠ 0 := by omega
        generalize hq : (1000000000000000 : Int) / z = q at *
        have hqt : Int.tdiv 1000000000000000 z = q := by rw [Int.tdiv_eq_ediv_of_nonneg (by omega)]; exact hq
        have hyn : (y != 0) = true := by simp [hy]
        have hqw : wrap64 q = q := IntWalk.wrap64_in _ ⟨by omega, by omega⟩
        have hqc : ¬ (q < (ch : Int)) := by omega
        clear n0 n1 m0 hk hk1 hC' s0 hqb hq2 hz0 hz hq
        by_cases hjx : j < x
        · have hjx' : (j : Int) < (x : Int) := by omega
          have hsub : (x : Int) - (j : Int) = ((x - j : Nat) : Int) := by omega
          have hj1 : ((j + 1 : Nat) : Int) = (j : Int) + 1 := by omega
          have hwj : IntKind.i64.wrap (((x - j : Nat) : Int)) = ((x - j : Nat) : Int) := IntWalk.i64_in _ (by omega)
          have HT' := Lib.hid (HT.out hjx)
          rw [if_pos hjx] at Hc
          generalize hD : x - j = d at *
          have hwd : (d : Int) < 14 := by omega
          generalize hE : ch * d / (j + 1) = e1 at *
          rw [hj1] at HT'
          clear hD hE hj1 HT
          go_wp2_with fail
          refine (HZ.out _).mono ?_; rintro e w1 ⟨rfl, rfl⟩
          go_wp2_with fail
          refine (HI.out _).mono ?_; rintro e w1 ⟨rfl, rfl⟩
          go_wp2_with fail
          refine (HT'.out _).mono ?_; rintro e w1 ⟨rfl, rfl⟩
          go_wp2_with fail
          go_round
          case rel => exact ⟨j + 1, by omega, by go_num, by first | (rw [Hn.out]; done) | (rw [Hn.out]; rfl), by first | (rw [Hc.out]; done) | (rw [Hc.out]; rfl)⟩
          case measure => simp [intOf]; omega
        · have hjx' : ¬ ((j : Int) < (x : Int)) := by omega
          rw [if_neg hjx] at Hc
          go_wp2_with fail
          refine (HZ.out _).mono ?_; rintro e w1 ⟨rfl, rfl⟩
          go_wp2_with fail
          refine (HI.out _).mono ?_; rintro e w1 ⟨rfl, rfl⟩
          go_wp2_with fail
          go_round
          case rel => exact ⟨j + 1, by omega, by go_num, by first | (rw [Hn.out]; done) | (rw [Hn.out]; rfl), by first | (rw [Hc.out]; done) | (rw [Hc.out]; rfl)⟩
          case measure => simp [intOf]; omega
    · have hjn : j = n := by omega
      have hlt' : (n : Int) ≤ (j : Int) := by omega
      subst hjn
      go_wp2_with fail
      go_ret2
      exact ⟨rfl, rfl⟩
end Go.Proofs.Ytfaoilonkonmkaa
