/- The law FnBinomials. -/
import Derived.Test.YtfaoilonkonmkaaDf5
namespace Go.Proofs.Ytfaoilonkonmkaa
open Go.RowKit Go.Joins

set_option maxRecDepth 100000 in
set_option maxHeartbeats 3200000 in
theorem walkFnBinomials {W : World} (v1 : Value) (bs : List UInt8) (h1 : Rd W W.heap.size v1 bs.length 1 (bs.map byV)) (_m1 : bs.length ≤ maxLen) (v2 : Value) (cs : List UInt8) (h2 : Rd W W.heap.size v2 cs.length 1 (cs.map byV)) (_m2 : cs.length ≤ maxLen) :
    Calls Try.prog 12 #[v1, v2] W fun e w' => e = .returned (.bool true) ∧ Below W.heap.size W w' := by
  have HL := Lib.hid (a2Long_any _ _ _ _ _ _ _ _ W h1 h2)
  have HN := Lib.hid (a2At_any _ v1 bs 60 0 W h1 (by omega))
  have HK := Lib.hid (a2At_any _ v1 bs 59 1 W h1 (by omega))
  have HA := Lib.hid (A2Coefs_any W.heap.size v2 cs W h2 (Nat.le_refl _))
  unfold RetC at HA
  have HB := Lib.hid (fun n k hn hk => BinomialOf_any n k W hn hk)
  have hb0 := Lib.hid (Below.refl W.heap.size W)
  obtain ⟨A1, c1, rfl⟩ := rd_sl h1
  obtain ⟨A2, c2, rfl⟩ := rd_sl h2
  clear h1 h2
  by_cases hlong : (decide (3000 < bs.length) || decide (3000 < cs.length)) = true
  · rw [hlong] at HL
    go_enter Try.func12, Try.ntmps12
    go_wp2_with fail
    refine HL.out.mono ?_; rintro e w1 ⟨rfl, rfl⟩
    go_wp2_with fail
    go_ret
    exact ⟨rfl, hb0.out⟩
  · have hlong' : (decide (3000 < bs.length) || decide (3000 < cs.length)) = false := by simpa using hlong
    rw [hlong'] at HL
    clear hlong hlong'
    go_enter Try.func12, Try.ntmps12
    go_wp2_with fail
    refine HL.out.mono ?_; rintro e w1 ⟨rfl, rfl⟩
    go_wp2_with fail
    refine HN.out.mono ?_; rintro e w1 ⟨⟨x, rfl, hx0, hx1, _⟩, rfl⟩
    have hx60 := hx1 (by omega)
    obtain ⟨n, rfl⟩ : ∃ n : Nat, x = (n : Int) := ⟨x.toNat, by omega⟩
    clear hx0 hx1
    go_wp2_with fail
    refine HK.out.mono ?_; rintro e w1 ⟨⟨y, rfl, hy0, hy1, _⟩, rfl⟩
    have hy59 := hy1 (by omega)
    obtain ⟨k, rfl⟩ : ∃ k : Nat, y = (k : Int) := ⟨y.toNat, by omega⟩
    have hn60 : n < 60 := by omega
    have hk59 : k < 59 := by omega
    clear hy0 hy1
    have B1 := Lib.hid (HB.out n (k + 1) (by omega) (by omega))
    have B2 := Lib.hid (HB.out n k (by omega) (by omega))
    have B3 := Lib.hid (HB.out (n + 1) (k + 1) (by omega) (by omega))
    rw [show ((k + 1 : Nat) : Int) = 1 + (k : Int) by omega] at B1
    rw [show ((k + 1 : Nat) : Int) = 1 + (k : Int) by omega, show ((n + 1 : Nat) : Int) = (n : Int) + 1 by omega] at B3
    have hpas := bin_pascal n hn60 k hk59
    have b1 := binV_bd (n := n) (k := k + 1) (by omega)
    have b2 := binV_bd (n := n) (k := k) (by omega)
    generalize binV n (k + 1) = x1 at *
    generalize binV n k = x2 at *
    generalize binV (n + 1) (k + 1) = x3 at *
    have hp3 : (x3 : Int) = (x1 : Int) + (x2 : Int) := by omega
    have hk1 : 1 + (k : Int) - 1 = (k : Int) := by omega
    clear hpas
    go_wp2_with fail
    refine B1.out.mono ?_; rintro e w1 ⟨rfl, rfl⟩
    go_wp2_with fail
    refine B2.out.mono ?_; rintro e w1 ⟨rfl, rfl⟩
    go_wp2_with fail
    refine B3.out.mono ?_; rintro e w1 ⟨rfl, rfl⟩
    have hx3w : IntKind.i64.wrap ((x1 : Int) + (x2 : Int)) = (x1 : Int) + (x2 : Int) := IntWalk.i64_in _ (by omega)
    go_wp2_with fail
    refine HA.out.mono ?_; rintro e w2 ⟨v3, m, p, rfl, h1, hm, hS, ho2, hb2⟩
    obtain ⟨A3, c3, rfl⟩ := own_sl ho2
    have HF := Lib.hid (FromPowers_any w2.heap.size _ m p w2 (Rd.of_own ho2) (Nat.le_refl _) h1 hm hS)
    unfold RetF0 at HF
    have HS := Lib.hid hS
    have Ho2 := Lib.hid ho2
    have Hb2 := Lib.hid hb2
    clear hS ho2 hb2 hp3 hx3w hk1 b1 b2
    go_wp2_with fail
    refine HF.out.mono ?_; rintro e w3 ⟨v4, rfl, ho3, hb3⟩
    obtain ⟨A4, c4, rfl⟩ := own_sl ho3
    have R2 := Lib.hid (Rd.below (Rd.of_own Ho2.out) hb3)
    have R3 := Lib.hid (Rd.of_own ho3)
    have Hb3 := Lib.hid (Hb2.out.trans (hb3.mono Hb2.out.size))
    have Hnp := Lib.hid (fun x hx => newton_pow p m x h1 hm hx)
    have HNV := Lib.hid (fun x hx => NewtonValue_any w3.heap.size (.slice A4 m c4) m 1000000 x _ w3 R3.out h1 (by omega) hx (lead_small HS.out hm) (Nat.le_refl _))
    have hm' : (m : Int) ≤ 5 := by omega
    clear ho3 hb3
    go_wp2_with fail
    go_loop [16] (fun i => ∃ x : Nat, x ≤ 9 ∧ i = .int .i64 (x : Int)) (fun i => 9 - (intOf i).toNat)
    case atStart => exact ⟨0, by omega, rfl⟩
    case round =>
      obtain ⟨x, hx, rfl⟩ := hrel
      by_cases hx9 : x < 9
      · have hx9' : (x : Int) < 9 := by omega
        go_wp2_with fail
        go_loop [17, 18] (fun a i => ∃ (d : Nat) (z : Int), d ≤ m ∧ z + d + 1 = (m : Int) ∧ i = .int .i64 z ∧ a = .int .i64 (hp p x m d)) (fun _ i => (intOf i + 1).toNat)
        case atStart => exact ⟨0, (m : Int) - 1, Nat.zero_le _, by omega, rfl, rfl⟩
        case round =>
          obtain ⟨d, z, hd, hz, rfl, rfl⟩ := hrel
          have Hz := Lib.hid hz
          by_cases hdm : d < m
          · obtain ⟨s, rfl⟩ : ∃ s : Nat, z = (s : Int) := ⟨z.toNat, by omega⟩
            have hs : s < m := by omega
            have hsd : m - 1 - d = s := by omega
            obtain ⟨b1, o1, hA, _, hcc⟩ := rdF_all R2.out h1
            subst hA
            have q0 := hcc s hs
            have s0 := HS.out s hs
            have n0 := hp_bd2 (X := 8) HS.out (show x ≤ 8 by omega) (by omega) hm hd
            have n1 := hp_bd2 (X := 8) HS.out (show x ≤ 8 by omega) (by omega) hm (show d + 1 ≤ m by omega)
            have Hn := Lib.hid (show hp p x m (d + 1) = hp p x m d * (x : Int) + p s by rw [← hsd]; rfl)
            rw [Hn.out] at n1
            have m0 := mul_bd (C := 1180980) (by omega) x 8 (show x ≤ 8 by omega) (a := hp p x m d)
            generalize hp p x m d = y at *
            generalize p s = ps at *
            generalize hP : y * (x : Int) = P at *
            have hPw : IntKind.i64.wrap P = P := IntWalk.i64_in _ (by omega)
            have hsw : IntKind.i64.wrap (P + ps) = P + ps := IntWalk.i64_in _ (by omega)
            have hsi : (s : Int) < (m : Int) := by omega
            clear hcc n0 n1 m0 hz hsd
            go_wp2_with fail
            go_round
            case rel => exact ⟨d + 1, (s : Int) - 1, by omega, by have := Hz.out; omega, by go_num, by rw [Hn.out]⟩
            case measure => first | (simp [intOf]; done) | (simp [intOf]; omega)
          · have hz1 : z = -1 := by omega
            subst hz1
            have hdm' : d = m := by omega
            subst hdm'
            have HV := Lib.hid (HNV.out x (by omega))
            rw [Hnp.out x hx9] at HV
            clear hz
            generalize hp p x d d = y at *
            go_wp2_with fail
            refine HV.out.mono ?_; rintro e w4 ⟨rfl, rfl⟩
            go_wp2_with fail
            go_round
            case rel => exact ⟨x + 1, by omega, by go_num⟩
            case measure => simp [intOf]; omega
      · obtain rfl : x = 9 := by omega
        go_wp2_with fail
        go_ret
        exact ⟨rfl, Hb3.out⟩
end Go.Proofs.Ytfaoilonkonmkaa
