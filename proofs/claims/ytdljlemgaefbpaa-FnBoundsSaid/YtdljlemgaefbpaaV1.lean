/- Bounds of errors, part 2: the sums. -/
import Derived.Test.YtdljlemgaefbpaaU6
namespace Go.Proofs.Ytdljlemgaefbpaa
open Go.RowKit Go.Joins

def slipN (f : Nat → Int) : Nat → Nat := fun k => (f k).toNat
theorem slipN_eq {m : Nat} {f : Nat → Int} (h : slipB m f = true) {k : Nat} (hk : k < m) : f k = ((slipN f k : Nat) : Int) ∧ slipN f k ≤ 1000000 := by
  have := (slipB_ok h).1 k hk
  unfold slipN
  omega
theorem sb_top {s : Nat → Nat} {m n k : Nat} (hk : k < m) (h : 1000000000000 < s k * ch n k) : sb s m n = top := sb_over hk (by omega)
theorem sb_end {s : Nat → Nat} {m n : Nat} (h : sm s n m ≤ 1000000000000) : sb s m n = sm s n m := cp_small h
theorem min_if (a : Nat) (hi : (1000000000001 : Int) = ((top : Nat) : Int)) : (if (1000000000001 : Int) < (a : Int) then (1000000000001 : Int) else (a : Int)) = ((min a top : Nat) : Int) := by
  rw [hi]
  split <;> omega
theorem top_i : (1000000000001 : Int) = ((top : Nat) : Int) := rfl

/-- the end of a round -/
theorem sb_round {s : Nat → Nat} {n k m : Nat} (hk : k < m) (hs : sm s n k ≤ 1000000000000) :
    (s k = 0 ∧ sm s n (k + 1) = sm s n k) ∨ (0 < s k ∧ 1000000000000 / s k < cp (ch n k) ∧ sb s m n = top) ∨
    (0 < s k ∧ cp (ch n k) ≤ 1000000000000 / s k ∧ s k * cp (ch n k) ≤ 1000000000000 ∧ ((1000000000000 < sm s n k + s k * cp (ch n k) ∧ sb s m n = top) ∨ (sm s n k + s k * cp (ch n k) ≤ 1000000000000 ∧ sm s n (k + 1) = sm s n k + s k * cp (ch n k)))) := by
  have e : sm s n (k + 1) = sm s n k + s k * ch n k := rfl
  by_cases h0 : 0 < s k
  · by_cases h1 : cp (ch n k) ≤ 1000000000000 / s k
    · obtain ⟨h2, h3⟩ := cp_under h0 h1
      refine .inr (.inr ⟨h0, h1, by rw [h2]; exact h3, ?_⟩)
      rw [h2]
      by_cases h4 : 1000000000000 < sm s n k + s k * ch n k
      · exact .inl ⟨h4, sb_over hk h4⟩
      · exact .inr ⟨by omega, e⟩
    · exact .inr (.inl ⟨h0, by omega, sb_top hk (cp_over h0 (by omega))⟩)
  · have h1 : s k = 0 := by omega
    exact .inl ⟨h1, by rw [e, h1]; simp⟩
set_option maxRecDepth 100000 in
set_option maxHeartbeats 3200000 in
theorem sumBound_c (B : Nat) (v : Value) (m : Nat) (f : Nat → Int) (n : Nat) (w : World) (h : Rd w B v m 1 (tab m f)) (hok : slipB m f = true) (hn : n ≤ 100000) :
    Calls Try.prog 97 #[v, .int .i64 (n : Int)] w fun e w' => e = .returned (.int .i64 ((sb (slipN f) m n : Nat) : Int)) ∧ w = w' := by
  have H := Lib.hid h
  have HE := Lib.hid (fun k hk => slipN_eq hok (k := k) hk)
  obtain ⟨_, hm1, hm9⟩ := slipB_ok hok
  obtain ⟨A, c, rfl⟩ := rd_sl h
  clear h hok
  generalize slipN f = s at *
  go_enter Try.func97, Try.ntmps97
  go_wp2_with fail
  go_loop [5, 6, 11] (fun a b i => ∃ k : Nat, k ≤ m ∧ i = .int .i64 (k : Int) ∧ a = .int .i64 ((sm s n k : Nat) : Int) ∧ b = .int .i64 ((cp (ch n (k - 1)) : Nat) : Int) ∧ sm s n k ≤ 1000000000000) (fun _ _ i => m - (intOf i).toNat)
  case atStart => exact ⟨0, Nat.zero_le _, rfl, rfl, by rw [ch_0]; rfl, by show 0 ≤ _; omega⟩
  case round =>
    obtain ⟨k, hk, rfl, rfl, rfl, hsum⟩ := hrel
    by_cases hlt : k < m
    · obtain ⟨b1, o1, hA, _, hcc⟩ := rdF_all H.out (by omega)
      subst hA
      have q0 := hcc k hlt
      obtain ⟨hsk, hsl⟩ := HE.out k hlt
      rw [hsk] at q0
      have hlt' : (k : Int) < (m : Int) := by omega
      have Hrd := Lib.hid (sb_round (s := s) (n := n) (k := k) (m := m) hlt hsum)
      have Hsum := Lib.hid hsum
      have hsi : ((sm s n k : Nat) : Int) ≤ 1000000000000 := by omega
      have hcl := cp_le (ch n k)
      have hcl0 := cp_le (ch n (k - 1))
      unfold top at hcl hcl0
      clear hcc hsum hsk
      have Hk := Lib.hid hlt
      have Hk8 := Lib.hid (show k - 1 ≤ 8 by omega)
      have Hstep := Lib.hid (fun (j : Nat) (hj : j ≤ 8) => cp_step n j hj)
      by_cases hk0 : k = 0
      · have e : cp (ch n (k - 1)) = cp (ch n k) := by rw [hk0]
        have hk0' : (k : Int) ≤ 0 := by omega
        rw [e]
        clear e hk0 hcl0
        generalize hcg : cp (ch n k) = c at *
        generalize sm s n k = sum at *
        have Hcg := Lib.hid hcg
        clear hcg Hstep
        have hrd := Hrd.out
        rcases hrd with ⟨hs0, hnx⟩ | ⟨hs0, hov, hres⟩ | ⟨hs0, hun, hpl, hrest⟩
        · have Hnx := Lib.hid hnx
          rw [hs0, show (((0 : Nat) : Int)) = 0 from rfl] at q0
          (try rw [hs0, show (((0 : Nat) : Int)) = 0 from rfl])
          clear hnx hs0 Hrd
          go_wp2_with fail
          go_round
          case rel => exact ⟨k + 1, by omega, by go_num, by rw [Hnx.out], by first | (rw [Nat.add_sub_cancel, Hcg.out]; done) | (rw [Nat.add_sub_cancel, Hcg.out]; rfl), by rw [Hnx.out]; exact Hsum.out⟩
          case measure => first | (simp [intOf]; done) | (simp [intOf]; omega)
        · have Hres := Lib.hid hres
          have hs1 : (0 : Int) < ((s k : Nat) : Int) := by omega
          have hdv : (1000000000000 : Int) / ((s k : Nat) : Int) < ((c : Nat) : Int) := by
            rw [show (1000000000000 : Int) / ((s k : Nat) : Int) = ((1000000000000 / s k : Nat) : Int) from (Int.natCast_ediv _ _).symm]
            omega
          clear hres hov hs0 Hrd
          generalize s k = sk at *
          go_wp2_with fail
          go_ret
          exact ⟨ret_int (by rw [Hres.out]; rfl), rfl⟩
        · have hs1 : (0 : Int) < ((s k : Nat) : Int) := by omega
          have hdv : ¬ (1000000000000 : Int) / ((s k : Nat) : Int) < ((c : Nat) : Int) := by
            rw [show (1000000000000 : Int) / ((s k : Nat) : Int) = ((1000000000000 / s k : Nat) : Int) from (Int.natCast_ediv _ _).symm]
            omega
          have Hrest := Lib.hid hrest
          clear hrest hun hs0 Hrd
          generalize s k = sk at *
          obtain ⟨P, hP⟩ : ∃ P, sk * c = P := ⟨_, rfl⟩
          rw [hP] at hpl Hrest
          have hPw : IntKind.i64.wrap ((sk : Int) * (c : Int)) = (P : Int) := by rw [← Int.natCast_mul, hP]; exact IntWalk.i64_in _ (by omega)
          have hPl : (P : Int) ≤ 1000000000000 := by omega
          clear hP hpl
          have hrest := Hrest.out
          rcases hrest with ⟨hbig, hres⟩ | ⟨hsm, hnx⟩
          · have Hres := Lib.hid hres
            have hbig' : (1000000000000 : Int) < ((sum : Nat) : Int) + (P : Int) := by omega
            clear hres hbig Hrest
            go_wp2_with fail
            go_ret
            exact ⟨ret_int (by rw [Hres.out]; rfl), rfl⟩
          · have Hnx := Lib.hid hnx
            have hsm' : ((sum : Nat) : Int) + (P : Int) ≤ 1000000000000 := by omega
            have Hsm := Lib.hid hsm
            clear hnx hsm Hrest
            go_wp2_with fail
            go_round
            case rel => exact ⟨k + 1, by omega, by go_num, by rw [Hnx.out]; go_num, by first | (rw [Nat.add_sub_cancel, Hcg.out]; done) | (rw [Nat.add_sub_cancel, Hcg.out]; rfl), by rw [Hnx.out]; exact Hsm.out⟩
            case measure => first | (simp [intOf]; done) | (simp [intOf]; omega)
      · have hk0' : (0 : Int) < (k : Int) := by omega
        have hst := Hstep.out (k - 1) (by omega)
        rw [show k - 1 + 1 = k by omega] at hst
        by_cases hcm : cp (ch n (k - 1)) ≤ 1000000000000
        · rw [if_pos hcm] at hst
          obtain ⟨q, hq⟩ : ∃ q, n - (k - 1) = q := ⟨_, rfl⟩
          rw [hq] at hst
          have hq5 : q ≤ 100000 := by omega
          generalize cp (ch n (k - 1)) = c0 at *
          obtain ⟨P, hP⟩ : ∃ P, c0 * q = P := ⟨_, rfl⟩
          rw [hP] at hst
          have hPb : P ≤ 1000000000000 * 100000 := by rw [← hP]; exact Nat.mul_le_mul hcm hq5
          have hc0' : (c0 : Int) ≤ 1000000000000 := by omega
          have hdv0 : (P : Int) / (k : Int) = ((P / k : Nat) : Int) := (Int.natCast_ediv _ _).symm
          have HM := Lib.hid (show (if (1000000000001 : Int) < (P : Int) / (k : Int) then (1000000000001 : Int) else (P : Int) / (k : Int)) = ((cp (ch n k) : Nat) : Int) by rw [hdv0, min_if _ top_i, hst])
          have hQb : (P : Int) / (k : Int) ≤ 100000000000000000 := by rw [hdv0]; have := Nat.div_le_self P k; omega
          have hQ0 : 0 ≤ (P : Int) / (k : Int) := by rw [hdv0]; omega
          clear hst hdv0
          generalize hcg : cp (ch n k) = c at *
          generalize sm s n k = sum at *
          have Hcg := Lib.hid hcg
          clear hcg Hstep hcl0
          by_cases hneg : (n : Int) - (k : Int) + 1 < 0
          · have hq0 : q = 0 := by omega
            have hP0 : P = 0 := by rw [← hP, hq0, Nat.mul_zero]
            subst hP0
            have hPw : IntKind.i64.wrap ((c0 : Int) * 0) = ((0 : Nat) : Int) := by rw [Int.mul_zero]; rfl
            clear hq hP hq0 hk0 hcm
            go_upto_region 7 with (fail)
            have hc0 : c = 0 := by
              have h := HM.out
              rw [show (((0 : Nat) : Int)) = 0 from rfl, Int.zero_ediv, if_neg (by omega)] at h
              omega
            subst hc0
            clear hQb hQ0 HM hPw
            have hrd := Hrd.out
            rcases hrd with ⟨hs0, hnx⟩ | ⟨_, hov, _⟩ | ⟨hs0, _, _, hrest⟩
            · have Hnx := Lib.hid hnx
              rw [hs0, show (((0 : Nat) : Int)) = 0 from rfl] at q0
              (try rw [hs0, show (((0 : Nat) : Int)) = 0 from rfl])
              clear hnx hs0 Hrd
              go_wp2_with fail
              go_round
              case rel => exact ⟨k + 1, by omega, by go_num, by rw [Hnx.out], by first | (rw [Nat.add_sub_cancel, Hcg.out]; done) | (rw [Nat.add_sub_cancel, Hcg.out]; rfl), by rw [Hnx.out]; exact Hsum.out⟩
              case measure => first | (simp [intOf]; done) | (simp [intOf]; omega)
            · exact absurd hov (Nat.not_lt_zero _)
            · rw [Nat.mul_zero] at hrest
              rcases hrest with ⟨hbig, _⟩ | ⟨_, hnx⟩
              · have := Hsum.out
                omega
              · have Hnx := Lib.hid hnx
                have hs1 : (0 : Int) < ((s k : Nat) : Int) := by omega
                have hdv : ¬ (1000000000000 : Int) / ((s k : Nat) : Int) < 0 := by
                  rw [show (1000000000000 : Int) / ((s k : Nat) : Int) = ((1000000000000 / s k : Nat) : Int) from (Int.natCast_ediv _ _).symm]
                  omega
                have hPw : IntKind.i64.wrap (((s k : Nat) : Int) * 0) = 0 := by rw [Int.mul_zero]; rfl
                clear hnx hs0 Hrd
                generalize s k = sk at *
                go_wp2_with fail
                go_round
                case rel => exact ⟨k + 1, by omega, by go_num, by rw [Hnx.out, Nat.add_zero], by first | (rw [Nat.add_sub_cancel, Hcg.out]; done) | (rw [Nat.add_sub_cancel, Hcg.out]; rfl), by rw [Hnx.out]; exact Hsum.out⟩
                case measure => first | (simp [intOf]; done) | (simp [intOf]; omega)
          · have hqi : (n : Int) - (k : Int) + 1 = (q : Int) := by omega
            have hPw : IntKind.i64.wrap ((c0 : Int) * (q : Int)) = (P : Int) := by rw [← Int.natCast_mul, hP]; exact IntWalk.i64_in _ (by omega)
            have hneg' : ¬ (q : Int) < 0 := by omega
            clear hq hP hk0 hcm hneg
            go_upto_region 7 with (fail)
            rw [HM.out]
            clear hQb hQ0 HM hPw hqi hneg'
            have hrd := Hrd.out
            rcases hrd with ⟨hs0, hnx⟩ | ⟨hs0, hov, hres⟩ | ⟨hs0, hun, hpl, hrest⟩
            · have Hnx := Lib.hid hnx
              rw [hs0, show (((0 : Nat) : Int)) = 0 from rfl] at q0
              (try rw [hs0, show (((0 : Nat) : Int)) = 0 from rfl])
              clear hnx hs0 Hrd
              go_wp2_with fail
              go_round
              case rel => exact ⟨k + 1, by omega, by go_num, by rw [Hnx.out], by first | (rw [Nat.add_sub_cancel, Hcg.out]; done) | (rw [Nat.add_sub_cancel, Hcg.out]; rfl), by rw [Hnx.out]; exact Hsum.out⟩
              case measure => first | (simp [intOf]; done) | (simp [intOf]; omega)
            · have Hres := Lib.hid hres
              have hs1 : (0 : Int) < ((s k : Nat) : Int) := by omega
              have hdv : (1000000000000 : Int) / ((s k : Nat) : Int) < ((c : Nat) : Int) := by
                rw [show (1000000000000 : Int) / ((s k : Nat) : Int) = ((1000000000000 / s k : Nat) : Int) from (Int.natCast_ediv _ _).symm]
                omega
              clear hres hov hs0 Hrd
              generalize s k = sk at *
              go_wp2_with fail
              go_ret
              exact ⟨ret_int (by rw [Hres.out]; rfl), rfl⟩
            · have hs1 : (0 : Int) < ((s k : Nat) : Int) := by omega
              have hdv : ¬ (1000000000000 : Int) / ((s k : Nat) : Int) < ((c : Nat) : Int) := by
                rw [show (1000000000000 : Int) / ((s k : Nat) : Int) = ((1000000000000 / s k : Nat) : Int) from (Int.natCast_ediv _ _).symm]
                omega
              have Hrest := Lib.hid hrest
              clear hrest hun hs0 Hrd
              generalize s k = sk at *
              obtain ⟨P, hP⟩ : ∃ P, sk * c = P := ⟨_, rfl⟩
              rw [hP] at hpl Hrest
              have hPw : IntKind.i64.wrap ((sk : Int) * (c : Int)) = (P : Int) := by rw [← Int.natCast_mul, hP]; exact IntWalk.i64_in _ (by omega)
              have hPl : (P : Int) ≤ 1000000000000 := by omega
              clear hP hpl
              have hrest := Hrest.out
              rcases hrest with ⟨hbig, hres⟩ | ⟨hsm, hnx⟩
              · have Hres := Lib.hid hres
                have hbig' : (1000000000000 : Int) < ((sum : Nat) : Int) + (P : Int) := by omega
                clear hres hbig Hrest
                go_wp2_with fail
                go_ret
                exact ⟨ret_int (by rw [Hres.out]; rfl), rfl⟩
              · have Hnx := Lib.hid hnx
                have hsm' : ((sum : Nat) : Int) + (P : Int) ≤ 1000000000000 := by omega
                have Hsm := Lib.hid hsm
                clear hnx hsm Hrest
                go_wp2_with fail
                go_round
                case rel => exact ⟨k + 1, by omega, by go_num, by rw [Hnx.out]; go_num, by first | (rw [Nat.add_sub_cancel, Hcg.out]; done) | (rw [Nat.add_sub_cancel, Hcg.out]; rfl), by rw [Hnx.out]; exact Hsm.out⟩
                case measure => first | (simp [intOf]; done) | (simp [intOf]; omega)
        · rw [if_neg hcm] at hst
          have hcm' : ¬ ((cp (ch n k) : Nat) : Int) ≤ 1000000000000 := by rw [hst]; omega
          rw [← hst]
          clear hst hcm hcl0
          generalize hcg : cp (ch n k) = c at *
          generalize sm s n k = sum at *
          have Hcg := Lib.hid hcg
          clear hcg Hstep hk0
          have hrd := Hrd.out
          rcases hrd with ⟨hs0, hnx⟩ | ⟨hs0, hov, hres⟩ | ⟨hs0, hun, hpl, hrest⟩
          · have Hnx := Lib.hid hnx
            rw [hs0, show (((0 : Nat) : Int)) = 0 from rfl] at q0
            (try rw [hs0, show (((0 : Nat) : Int)) = 0 from rfl])
            clear hnx hs0 Hrd
            go_wp2_with fail
            go_round
            case rel => exact ⟨k + 1, by omega, by go_num, by rw [Hnx.out], by first | (rw [Nat.add_sub_cancel, Hcg.out]; done) | (rw [Nat.add_sub_cancel, Hcg.out]; rfl), by rw [Hnx.out]; exact Hsum.out⟩
            case measure => first | (simp [intOf]; done) | (simp [intOf]; omega)
          · have Hres := Lib.hid hres
            have hs1 : (0 : Int) < ((s k : Nat) : Int) := by omega
            have hdv : (1000000000000 : Int) / ((s k : Nat) : Int) < ((c : Nat) : Int) := by
              rw [show (1000000000000 : Int) / ((s k : Nat) : Int) = ((1000000000000 / s k : Nat) : Int) from (Int.natCast_ediv _ _).symm]
              omega
            clear hres hov hs0 Hrd
            generalize s k = sk at *
            go_wp2_with fail
            go_ret
            exact ⟨ret_int (by rw [Hres.out]; rfl), rfl⟩
          · have hs1 : (0 : Int) < ((s k : Nat) : Int) := by omega
            have hdv : ¬ (1000000000000 : Int) / ((s k : Nat) : Int) < ((c : Nat) : Int) := by
              rw [show (1000000000000 : Int) / ((s k : Nat) : Int) = ((1000000000000 / s k : Nat) : Int) from (Int.natCast_ediv _ _).symm]
              omega
            have Hrest := Lib.hid hrest
            clear hrest hun hs0 Hrd
            generalize s k = sk at *
            obtain ⟨P, hP⟩ : ∃ P, sk * c = P := ⟨_, rfl⟩
            rw [hP] at hpl Hrest
            have hPw : IntKind.i64.wrap ((sk : Int) * (c : Int)) = (P : Int) := by rw [← Int.natCast_mul, hP]; exact IntWalk.i64_in _ (by omega)
            have hPl : (P : Int) ≤ 1000000000000 := by omega
            clear hP hpl
            have hrest := Hrest.out
            rcases hrest with ⟨hbig, hres⟩ | ⟨hsm, hnx⟩
            · have Hres := Lib.hid hres
              have hbig' : (1000000000000 : Int) < ((sum : Nat) : Int) + (P : Int) := by omega
              clear hres hbig Hrest
              go_wp2_with fail
              go_ret
              exact ⟨ret_int (by rw [Hres.out]; rfl), rfl⟩
            · have Hnx := Lib.hid hnx
              have hsm' : ((sum : Nat) : Int) + (P : Int) ≤ 1000000000000 := by omega
              have Hsm := Lib.hid hsm
              clear hnx hsm Hrest
              go_wp2_with fail
              go_round
              case rel => exact ⟨k + 1, by omega, by go_num, by rw [Hnx.out]; go_num, by first | (rw [Nat.add_sub_cancel, Hcg.out]; done) | (rw [Nat.add_sub_cancel, Hcg.out]; rfl), by rw [Hnx.out]; exact Hsm.out⟩
              case measure => first | (simp [intOf]; done) | (simp [intOf]; omega)
    · obtain rfl : k = m := by omega
      have Hr := Lib.hid (sb_end hsum)
      go_wp2_with fail
      go_ret
      exact ⟨ret_int (by rw [Hr.out]), rfl⟩
end Go.Proofs.Ytdljlemgaefbpaa
