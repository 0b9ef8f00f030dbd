/- Bounds of errors, part 3: the reference's sums, and both sides' bounds. -/
import Derived.Test.YtdljlemgaefbpaaV1
namespace Go.Proofs.Ytdljlemgaefbpaa
open Go.RowKit Go.Joins

theorem rs_next {s : Nat → Nat} {n k : Nat} : cp (sm s n (k + 1)) = if 0 < s k then min top (cp (sm s n k) + s k * min (cp (ch n k)) (1000000000000 / s k + 1)) else cp (sm s n k) := by
  rw [← rs_eq, ← rs_eq]
  rfl
theorem quo_bd2 {a M : Nat} (ha : 0 < a) (x : Nat) (hx : x ≤ M / a + 1) : a * x ≤ M + a := by
  have h1 := Nat.mul_le_mul_left a hx
  rw [Nat.mul_add, Nat.mul_one] at h1
  have h2 := Nat.mul_div_le M a
  omega
set_option maxRecDepth 100000 in
set_option maxHeartbeats 3200000 in
theorem l17Sum_c (B : Nat) (v : Value) (m : Nat) (f : Nat → Int) (n : Nat) (w : World) (h : Rd w B v m 1 (tab m f)) (hok : slipB m f = true) (hn : n ≤ 100000) :
    Calls Try.prog 100 #[v, .int .i64 (n : Int)] w fun e w' => e = .returned (.int .i64 ((sb (slipN f) m n : Nat) : Int)) ∧ ∃ d, w' = w.drewN d := by
  have H := Lib.hid h
  have HE := Lib.hid (fun k hk => slipN_eq hok (k := k) hk)
  obtain ⟨_, hm1, hm9⟩ := slipB_ok hok
  obtain ⟨A, c, rfl⟩ := rd_sl h
  clear h hok
  generalize slipN f = s at *
  go_enter Try.func100, Try.ntmps100
  go_wp2_with fail
  go_loopw [5, 6] (fun a i wr => ∃ k d : Nat, k ≤ m ∧ i = .int .i64 (k : Int) ∧ a = .int .i64 ((cp (sm s n k) : Nat) : Int) ∧ wr = w.drewN d) (fun _ i _ => m - (intOf i).toNat)
  case atStart => exact ⟨0, 0, Nat.zero_le _, rfl, rfl, rfl⟩
  case round =>
    obtain ⟨k, d, hk, rfl, rfl, hwr⟩ := hrel
    have Hw := Lib.hid hwr
    by_cases hlt : k < m
    · obtain ⟨b1, o1, hA, _, hcc⟩ := rdF_all (H.out.drewN d) (by omega)
      rw [← hwr] at hcc
      subst hA
      have q0 := hcc k hlt
      obtain ⟨hsk, hsl⟩ := HE.out k hlt
      rw [hsk] at q0
      have hlt' : (k : Int) < (m : Int) := by omega
      have HC := Lib.hid (fun wx => l17Choose_c n k wx hn (by omega))
      have Hn := Lib.hid (rs_next (s := s) (n := n) (k := k))
      have hcl := cp_le (sm s n k)
      unfold top at hcl
      have Hlt := Lib.hid hlt
      clear hcc hwr hsk hk hlt
      generalize cp (sm s n k) = sum at *
      by_cases hs : 0 < s k
      · rw [if_pos hs] at Hn
        obtain ⟨D, hD⟩ : ∃ D, 1000000000000 / s k = D := ⟨_, rfl⟩
        have hDb : D ≤ 1000000000000 := by rw [← hD]; exact Nat.div_le_self _ _
        have hpb := quo_bd2 (M := 1000000000000) hs (min (cp (ch n k)) (D + 1)) (by rw [hD]; omega)
        rw [hD] at Hn
        have hdv : (1000000000000 : Int) / ((s k : Nat) : Int) = (D : Int) := by rw [← hD]; exact (Int.natCast_ediv _ _).symm
        have hdv' : Int.tdiv 1000000000000 ((s k : Nat) : Int) = (D : Int) := by rw [Int.tdiv_eq_ediv_of_nonneg (by omega)]; exact hdv
        have HM1 := Lib.hid (fun wx => l00Min_c ((cp (ch n k) : Nat) : Int) ((D : Int) + 1) wx)
        obtain ⟨x, hx⟩ : ∃ x, min (cp (ch n k)) (D + 1) = x := ⟨_, rfl⟩
        rw [show min ((cp (ch n k) : Nat) : Int) ((D : Int) + 1) = (x : Int) by omega] at HM1
        rw [hx] at hpb Hn
        generalize cp (ch n k) = c at *
        generalize s k = sk at *
        obtain ⟨P, hP⟩ : ∃ P, sk * x = P := ⟨_, rfl⟩
        rw [hP] at hpb Hn
        have HM2 := Lib.hid (fun wx => l00Min_c 1000000000001 ((sum : Int) + (P : Int)) wx)
        rw [show min 1000000000001 ((sum : Int) + (P : Int)) = ((min top (sum + P) : Nat) : Int) by unfold top; omega] at HM2
        generalize min top (sum + P) = y at *
        have hw1 : IntKind.i64.wrap (D : Int) = (D : Int) := IntWalk.i64_in _ (by omega)
        have hw2 : IntKind.i64.wrap ((D : Int) + 1) = (D : Int) + 1 := IntWalk.i64_in _ (by omega)
        have hw3 : IntKind.i64.wrap ((sk : Int) * (x : Int)) = (P : Int) := by rw [← Int.natCast_mul, hP]; exact IntWalk.i64_in _ (by omega)
        have hw4 : IntKind.i64.wrap ((sum : Int) + (P : Int)) = (sum : Int) + (P : Int) := IntWalk.i64_in _ (by omega)
        have hs1 : (0 : Int) < (sk : Int) := by omega
        have hs2 : (1 : Int) ≤ (sk : Int) := by omega
        have hs3 : ((sk : Int) == 0) = false := by simp; omega
        clear hP hx hD hpb
        go_wp2_with fail
        go_quiet ((first | (go_at_call 124; exact Calls.quiet_of_same (flipQ (HC.out _))) | (go_at_call 166; exact Calls.quiet_of_same (flipQ (HM1.out _))) | (go_at_call 166; exact Calls.quiet_of_same (flipQ (HM2.out _)))))
        go_wp2_with fail
        go_roundw
        case rel => exact ⟨k + 1, d + nq, Hlt.out, by go_num, by rw [Hn.out], by rw [Hw.out]; exact World.drewN_drewN _ _ _⟩
        case measure => first | (simp [intOf]; done) | (simp [intOf]; omega)
      · rw [if_neg hs] at Hn
        have hs1 : ¬ (0 : Int) < ((s k : Nat) : Int) := by omega
        clear HC hs
        go_wp2_with fail
        go_roundw
        case rel => exact ⟨k + 1, d, Hlt.out, by go_num, by rw [Hn.out], Hw.out⟩
        case measure => first | (simp [intOf]; done) | (simp [intOf]; omega)
    · obtain rfl : k = m := by omega
      clear hwr
      go_wp2_with fail
      go_ret
      exact ⟨rfl, d, Hw.out⟩

/-- the bound after some steps, and its code -/
def sbP (m : Nat) (f : Nat → Int) (n : Int) : Int × Int := if slipB m f && inB n 0 100000 then (if 1000000000000 < sb (slipN f) m n.toNat then (0, 5) else (((sb (slipN f) m n.toNat : Nat) : Int), 0)) else (0, 2)
theorem sbP_1 {m : Nat} {f : Nat → Int} {n : Int} (h : slipB m f = false) : sbP m f n = (0, 2) := by unfold sbP; rw [h]; rfl
theorem sbP_2 {m : Nat} {f : Nat → Int} {n : Int} (h : inB n 0 100000 = false) : sbP m f n = (0, 2) := by unfold sbP; rw [h, Bool.and_false]; rfl
theorem sbP_3 {m n : Nat} {f : Nat → Int} (h : slipB m f = true) (h2 : n ≤ 100000) : sbP m f (n : Int) = if 1000000000000 < sb (slipN f) m n then (0, 5) else (((sb (slipN f) m n : Nat) : Int), 0) := by
  unfold sbP
  rw [h, inB_iff.2 (show (0 : Int) ≤ (n : Int) ∧ (n : Int) ≤ 100000 by omega)]
  rfl
theorem SumBoundI_c (B : Nat) (v : Value) (m : Nat) (f : Nat → Int) (n : Int) (w : World) (h : Rd w B v m 1 (tab m f)) (hm : m ≤ 1000) :
    Calls Try.prog 23 #[v, .int .i64 n] w fun e w' => e = .returned (.tuple #[.int .i64 (sbP m f n).1, .int .i64 (sbP m f n).2]) ∧ w = w' := by
  have HS := Lib.hid (slipsI_c B v m f w h hm)
  have HT := Lib.hid (fun wx => isStepCount_c n wx)
  have HB := Lib.hid (fun hok n hn => sumBound_c B v m f n w h hok hn)
  obtain ⟨A, c, rfl⟩ := rd_sl h
  clear h
  cases h1 : slipB m f with
  | false =>
    rw [sbP_1 h1]
    rw [h1] at HS
    clear h1 HB
    go_enter Try.func23, Try.ntmps23
    go_wp2_with fail
    refine (HS.out).mono ?_; rintro e w1 ⟨rfl, rfl⟩
    go_wp2_with fail
    go_ret2
    exact ⟨rfl, rfl⟩
  | true =>
    cases h2 : inB n 0 100000 with
    | false =>
      rw [sbP_2 h2]
      rw [h1] at HS
      rw [h2] at HT
      clear h1 h2 HB
      go_enter Try.func23, Try.ntmps23
      go_wp2_with fail
      refine (HS.out).mono ?_; rintro e w1 ⟨rfl, rfl⟩
      go_wp2_with fail
      refine (HT.out _).mono ?_; rintro e w1 ⟨rfl, rfl⟩
      go_wp2_with fail
      go_ret2
      exact ⟨rfl, rfl⟩
    | true =>
      obtain ⟨hn0, hn1⟩ := inB_iff.1 h2
      obtain ⟨N, rfl⟩ : ∃ N : Nat, n = (N : Int) := ⟨n.toNat, by omega⟩
      rw [sbP_3 h1 (by omega)]
      have HB := Lib.hid (HB.out h1 N (by omega))
      rw [h1] at HS
      rw [h2] at HT
      clear h1 h2
      generalize sb (slipN f) m N = z at *
      by_cases hz : 1000000000000 < z
      · rw [if_pos hz]
        have hz' : (1000000000000 : Int) < (z : Int) := by omega
        clear hz
        go_enter Try.func23, Try.ntmps23
        go_wp2_with fail
        refine (HS.out).mono ?_; rintro e w1 ⟨rfl, rfl⟩
        go_wp2_with fail
        refine (HT.out _).mono ?_; rintro e w1 ⟨rfl, rfl⟩
        go_wp2_with fail
        refine (HB.out).mono ?_; rintro e w1 ⟨rfl, rfl⟩
        go_wp2_with fail
        go_ret2
        exact ⟨rfl, rfl⟩
      · rw [if_neg hz]
        have hz' : (z : Int) ≤ 1000000000000 := by omega
        clear hz
        go_enter Try.func23, Try.ntmps23
        go_wp2_with fail
        refine (HS.out).mono ?_; rintro e w1 ⟨rfl, rfl⟩
        go_wp2_with fail
        refine (HT.out _).mono ?_; rintro e w1 ⟨rfl, rfl⟩
        go_wp2_with fail
        refine (HB.out).mono ?_; rintro e w1 ⟨rfl, rfl⟩
        go_wp2_with fail
        go_ret2
        exact ⟨rfl, rfl⟩
theorem SumBoundS_c (B : Nat) (v : Value) (m : Nat) (f : Nat → Int) (n : Int) (w : World) (h : Rd w B v m 1 (tab m f)) (hm : m ≤ 1000) :
    Calls Try.prog 24 #[v, .int .i64 n] w fun e w' => e = .returned (.tuple #[.int .i64 (sbP m f n).1, .int .i64 (sbP m f n).2]) ∧ ∃ d, w' = w.drewN d := by
  have HS := Lib.hid (slipsS_c B v m f w h hm)
  have HT := Lib.hid (fun wx => l00In_any n 0 100000 wx)
  have HB := Lib.hid (fun hok n hn => l17Sum_c B v m f n w h hok hn)
  obtain ⟨A, c, rfl⟩ := rd_sl h
  clear h
  cases h1 : slipB m f with
  | false =>
    rw [sbP_1 h1]
    rw [h1] at HS
    clear h1 HB
    go_enter Try.func24, Try.ntmps24
    go_wp2_with fail
    refine (HS.out).mono ?_; rintro e w1 ⟨rfl, rfl⟩
    go_wp2_with fail
    go_ret2
    exact ⟨rfl, 0, rfl⟩
  | true =>
    cases h2 : inB n 0 100000 with
    | false =>
      rw [sbP_2 h2]
      rw [h1] at HS
      rw [h2] at HT
      clear h1 h2 HB
      go_enter Try.func24, Try.ntmps24
      go_wp2_with fail
      refine (HS.out).mono ?_; rintro e w1 ⟨rfl, rfl⟩
      go_wp2_with fail
      refine (HT.out _).mono ?_; rintro e w1 ⟨rfl, rfl⟩
      go_wp2_with fail
      go_ret2
      exact ⟨rfl, 0, rfl⟩
    | true =>
      obtain ⟨hn0, hn1⟩ := inB_iff.1 h2
      obtain ⟨N, rfl⟩ : ∃ N : Nat, n = (N : Int) := ⟨n.toNat, by omega⟩
      rw [sbP_3 h1 (by omega)]
      have HB := Lib.hid (HB.out h1 N (by omega))
      rw [h1] at HS
      rw [h2] at HT
      clear h1 h2
      generalize sb (slipN f) m N = z at *
      by_cases hz : 1000000000000 < z
      · rw [if_pos hz]
        have hz' : (1000000000000 : Int) < (z : Int) := by omega
        clear hz
        go_enter Try.func24, Try.ntmps24
        go_wp2_with fail
        refine (HS.out).mono ?_; rintro e w1 ⟨rfl, rfl⟩
        go_wp2_with fail
        refine (HT.out _).mono ?_; rintro e w1 ⟨rfl, rfl⟩
        go_wp2_with fail
        refine (HB.out).mono ?_; rintro e w2 ⟨rfl, d, rfl⟩
        go_wp2_with fail
        go_ret2
        exact ⟨rfl, d, rfl⟩
      · rw [if_neg hz]
        have hz' : (z : Int) ≤ 1000000000000 := by omega
        clear hz
        go_enter Try.func24, Try.ntmps24
        go_wp2_with fail
        refine (HS.out).mono ?_; rintro e w1 ⟨rfl, rfl⟩
        go_wp2_with fail
        refine (HT.out _).mono ?_; rintro e w1 ⟨rfl, rfl⟩
        go_wp2_with fail
        refine (HB.out).mono ?_; rintro e w2 ⟨rfl, d, rfl⟩
        go_wp2_with fail
        go_ret2
        exact ⟨rfl, d, rfl⟩
end Go.Proofs.Ytdljlemgaefbpaa
