/- The law FnDifferences: the walk. -/
import Derived.Test.YtddiielbmjkppaaDd3
namespace Go.Proofs.Ytddiielbmjkppaa
open Go.RowKit Go.Joins

theorem rdN {w w' : World} {v : Value} {n sz : Nat} {cs : List Value} (h : Rd w w.heap.size v n sz cs) (hb : Below w.heap.size w w') : Rd w' w'.heap.size v n sz cs := (h.below hb).more hb.size
theorem vals14b {c : Nat → Int} {m n : Nat} (hS : Small 20 m c) (hm : m ≤ 5) (hn : n ≤ 14) : Small 171600 n (fun x => nval c x m) := by
  intro x hx
  have h1 := nval_bd hS (x := x) (by omega) (by omega) m (Nat.le_refl _)
  have h2 : m * (20 * 1716) ≤ 5 * (20 * 1716) := Nat.mul_le_mul_right _ hm
  show _ ≤ nval c x m ∧ nval c x m ≤ _
  omega
theorem own_posC {w : World} {base n size : Nat} {e : TypeId} {v : Value} {cs : List Value} (h : w.ownsRow base e size v n cs) (hn : 0 < n) : ∃ g cap, v = .slice (some ⟨g, 0, none⟩) n cap ∧ n ≤ cap ∧ cap ≤ maxLen := by
  rcases h.2 with ⟨_, h0⟩ | ⟨g, cap, _, hv, _, _, h1, h2, _⟩
  · omega
  · exact ⟨g, cap, hv, h1, h2⟩
/-- the beginning of a row -/
theorem Rd.head {w : World} {B n k c c2 : Nat} {A : Option Addr} {f : Nat → Int} (h : Rd w B (.slice A n c) n 1 (tab n f)) (hk : k ≤ n) : Rd w B (.slice A k c2) k 1 (tab k f) := by
  refine ⟨by rw [tab_len, Nat.mul_one], A, c2, rfl, fun hk0 => ?_⟩
  obtain ⟨b, off, hA, hb, hcc⟩ := rdF_all h (by omega)
  refine ⟨b, off, hA, hb, fun i u hu => ?_⟩
  have hi : i < k := by have := (List.getElem?_eq_some_iff.1 hu).1; rwa [tab_len] at this
  rw [tab_at f hi] at hu
  rw [← hu]; exact hcc i (by omega)
/-- what is true of the degree -/
theorem deg_of {c : Nat → Int} {m : Nat} (h1 : 1 ≤ m) (hm : m ≤ 5) : ∃ d, d < m ∧ LeastD 14 (fun x => nval c x m) d ∧ (∀ k, d < k → k < m → c k = 0) ∧ (∀ k, k ≤ d → Dn k (fun x => nval c x m) 0 = c k) := by
  have hm1 : zer (14 - (m - 1 + 1)) (Dn (m - 1 + 1) (fun x => nval c x m)) = true := by
    rw [show m - 1 + 1 = m by omega]
    exact zer_all fun i hi => Dn_nval c m (by omega) i (by omega) m (Nat.le_refl _)
  obtain ⟨d, h2, h3, h4⟩ := least (fun d => zer (14 - (d + 1)) (Dn (d + 1) (fun x => nval c x m))) (m - 1) hm1
  have h0 : ∀ k, k < m → Dn k (fun x => nval c x m) 0 = c k := fun k hk => by rw [Dn_nval0 c k (by omega) m hm, if_pos hk]
  refine ⟨d, by omega, ⟨by omega, by omega, h3, h4⟩, fun k hk hkm => ?_, fun k hk => h0 k (by omega)⟩
  rw [← h0 k hkm]
  have := Dn_later (fun x => nval c x m) (d + 1) (14 - (d + 1)) (fun i hi => zer_get h3 i hi) (k - (d + 1)) 0 (by omega)
  rwa [show d + 1 + (k - (d + 1)) = k by omega] at this

set_option maxRecDepth 100000 in
set_option maxHeartbeats 6400000 in
theorem walkFnDifferences {W : World} (v1 : Value) (bs : List UInt8) (h1 : Rd W W.heap.size v1 bs.length 1 (bs.map byV)) (_m1 : bs.length ≤ maxLen) (v2 : Value) (cs : List UInt8) (h2 : Rd W W.heap.size v2 cs.length 1 (cs.map byV)) (_m2 : cs.length ≤ maxLen) :
    Calls Try.prog 3 #[v1, v2] W fun e w' => e = .returned (.bool true) ∧ Below W.heap.size W w' := by
  have HL := Lib.hid (a2Long_any _ _ _ _ _ _ _ _ W h1 h2)
  have HA := Lib.hid (A2Coefs_any W.heap.size v1 bs W h1 (Nat.le_refl _))
  have HAt := Lib.hid (fun n k wx hx hk => a2At_any W.heap.size v2 cs n k wx hx hk)
  have H2 := Lib.hid h2
  unfold RetC at HA
  have hb0 := Lib.hid (Below.refl W.heap.size W)
  obtain ⟨A1, c1, rfl⟩ := rd_sl h1
  obtain ⟨A2, c2, rfl⟩ := rd_sl h2
  clear h1 h2
  by_cases hlong : (decide (3000 < bs.length) || decide (3000 < cs.length)) = true
  · rw [hlong] at HL
    go_enter Try.func3, Try.ntmps3
    go_wp2_with fail
    refine (HL.out).mono ?_; rintro e w1 ⟨rfl, rfl⟩
    go_wp2_with fail
    go_ret
    exact ⟨rfl, hb0.out⟩
  · have hlong' : (decide (3000 < bs.length) || decide (3000 < cs.length)) = false := by simpa using hlong
    rw [hlong'] at HL
    clear hlong hlong'
    go_enter Try.func3, Try.ntmps3
    go_wp2_with fail
    refine (HL.out).mono ?_; rintro e w1 ⟨rfl, rfl⟩
    go_wp2_with fail
    refine (HA.out).mono ?_; rintro e w2 ⟨v3, m, c, rfl, hm1, hm5, hS, ho2, hb2⟩
    obtain ⟨A3, c3, rfl⟩ := own_sl ho2
    have HT := Lib.hid (TabulateNewton_b w2.heap.size _ m 14 c w2 (Rd.of_own ho2) (Nat.le_refl _) hm1 hm5 hS (by omega) (by omega))
    rw [show ((14 : Nat) : Int) = 14 from rfl] at HT
    unfold RetF0 at HT
    have HS := Lib.hid hS
    obtain ⟨d, hdm, hld, hz0, hdk⟩ := deg_of (c := c) hm1 hm5
    have HF := Lib.hid (vals14b hS hm5 (Nat.le_refl 14))
    have Hnv := Lib.hid (fun x (hx : x < 14) => show (fun x => nval c x m) x = nval c x m from rfl)
    have Hsh := Lib.hid (fun t (ht : t ≤ 13) => shn_0 c m t hm1 hm5 (by omega))
    generalize hF : (fun x => nval c x m) = F at *
    have R2 := Lib.hid (Rd.of_own ho2)
    have Hb2 := Lib.hid hb2
    have Hld := Lib.hid hld
    have Hz0 := Lib.hid hz0
    have Hdk := Lib.hid hdk
    have hd4 : (d : Int) ≤ 4 := by omega
    have hdm' : (d : Int) < (m : Int) := by omega
    have hm5' : (m : Int) ≤ 5 := by omega
    clear hS ho2 hb2 hld hz0 hdk HA HL hF
    go_wp2_with fail
    refine (HT.out).mono ?_; rintro e w3 ⟨v4, rfl, ho3, hb3⟩
    obtain ⟨g4, c4, rfl, hc4, hc4m⟩ := own_posC ho3 (by omega)
    have HN := Lib.hid (NewtonOf_any w3.heap.size _ 14 d 171600 F w3 (Rd.of_own ho3) (Nat.le_refl _) (by omega) HF.out (by omega) Hld.out)
    unfold RetF0 at HN
    have R3 := Lib.hid (Rd.of_own ho3)
    have R2 := Lib.hid (rdN R2.out hb3)
    have Hb3 := Lib.hid (Hb2.out.trans (hb3.mono Hb2.out.size))
    clear ho3 hb3 HT Hb2
    go_wp2_with fail
    refine (HN.out).mono ?_; rintro e w4 ⟨v5, rfl, ho4, hb4⟩
    obtain ⟨g5, c5, rfl, _, _⟩ := own_posC ho4 (by omega)
    have R4 := Lib.hid (Rd.of_own ho4)
    have R3 := Lib.hid (rdN R3.out hb4)
    have R2 := Lib.hid (rdN R2.out hb4)
    have Hb4 := Lib.hid (Hb3.out.trans (hb4.mono Hb3.out.size))
    clear ho4 hb4 HN Hb3
    have HD := Lib.hid (DegreeOf_any w4.heap.size _ 14 d F w4 R3.out (Nat.le_refl _) (by omega) (HF.out.more (by omega)) Hld.out)
    go_wp2_with fail
    refine (HD.out).mono ?_; rintro e w5 ⟨rfl, hb5⟩
    have R4 := Lib.hid (rdN R4.out hb5)
    have R3 := Lib.hid (rdN R3.out hb5)
    have R2 := Lib.hid (rdN R2.out hb5)
    have Hb5 := Lib.hid (Hb4.out.trans (hb5.mono Hb4.out.size))
    clear hb5 HD Hb4
    have hdm2 : ¬ ((m : Int) < (d : Int) + 1) := by omega
    go_wp2_with fail
    go_loopw [12] (fun i wr => ∃ k q : Nat, k ≤ m ∧ i = .int .i64 (k : Int) ∧ wr = w5.drewN q) (fun i _ => m - (intOf i).toNat)
    case atStart => exact ⟨0, 0, Nat.zero_le _, rfl, rfl⟩
    case round =>
      obtain ⟨k, q, hk, rfl, rfl⟩ := hrel
      by_cases hkm : k < m
      · have hkm' : (k : Int) < (m : Int) := by omega
        obtain ⟨b1, o1, hA, _, hcc⟩ := rdF_all R2.out (by omega)
        subst hA
        have q1 := hcc k hkm
        clear hcc
        by_cases hkd : k ≤ d
        · obtain ⟨b2, o2, hA2, _, hcc⟩ := rdF_all R4.out (by omega)
          have q2 := hcc k (by omega)
          obtain ⟨rfl, rfl⟩ : g5 = b2 ∧ 0 = o2 := by simpa using hA2
          rw [Hdk.out k hkd, Nat.zero_add] at q2
          have hkd' : (k : Int) < (d : Int) + 1 := by omega
          have hkd2 : k < d + 1 := by omega
          have z1 : decide ((d : Int) + 1 ≤ (k : Int)) = false := decide_eq_false (by omega)
          have z2 : decide (d + 1 ≤ k) = false := decide_eq_false (by omega)
          have z3 : decide ((k : Int) < (d : Int) + 1) = true := decide_eq_true (by omega)
          have z4 : decide (k < d + 1) = true := decide_eq_true (by omega)
          clear hcc hA2
          generalize c k = x at *
          go_wp2_with fail
          go_quiet (fail)
          go_wp2_with fail
          go_roundw
          case rel => exact ⟨k + 1, q + nq, by omega, by go_num, rfl⟩
          case measure => first | (simp [intOf]; done) | (simp [intOf]; omega)
        · rw [Hz0.out k (by omega) hkm] at q1
          have hkd' : ¬ ((k : Int) < (d : Int) + 1) := by omega
          have hkd2 : (d : Int) + 1 ≤ (k : Int) := by omega
          have z1 : decide ((d : Int) + 1 ≤ (k : Int)) = true := decide_eq_true (by omega)
          have z2 : decide (d + 1 ≤ k) = true := decide_eq_true (by omega)
          have z3 : decide ((k : Int) < (d : Int) + 1) = false := decide_eq_false (by omega)
          have z4 : decide (k < d + 1) = false := decide_eq_false (by omega)
          go_wp2_with fail
          go_quiet (fail)
          go_wp2_with fail
          go_roundw
          case rel => exact ⟨k + 1, q + nq, by omega, by go_num, rfl⟩
          case measure => first | (simp [intOf]; done) | (simp [intOf]; omega)
      · have hkm' : (m : Int) ≤ (k : Int) := by omega
        have HA0 := Lib.hid (HAt.out 13 0 (w5.drewN q) (H2.out.below (below_drewN Hb5.out q)) (by omega))
        obtain ⟨w6, hw6⟩ : ∃ x, x = w5.drewN q := ⟨_, rfl⟩
        rw [← hw6] at HA0
        rw [← hw6]
        have R4 := Lib.hid (show Rd w6 w6.heap.size _ _ _ _ by rw [hw6]; exact R4.out)
        have R3 := Lib.hid (show Rd w6 w6.heap.size _ _ _ _ by rw [hw6]; exact R3.out)
        have R2 := Lib.hid (show Rd w6 w6.heap.size _ _ _ _ by rw [hw6]; exact R2.out)
        have Hb6 := Lib.hid (show Below W.heap.size W w6 by rw [hw6]; exact below_drewN Hb5.out q)
        clear hw6 Hb5
        go_wp2_with fail
        refine (HA0.out).mono ?_; rintro e w7 ⟨⟨x, rfl, hx0, hx1, _⟩, rfl⟩
        have hx13 := hx1 (by omega)
        obtain ⟨t, rfl⟩ : ∃ t : Nat, x = (t : Int) := ⟨x.toNat, by omega⟩
        have ht13 : t < 13 := by omega
        have HD1 := Lib.hid (DifferencesOf_any w6.heap.size _ 14 t 171600 F w6 R3.out (Nat.le_refl _) (by omega) (by omega) HF.out (by omega))
        have HD2 := Lib.hid (fun wx hx => DifferencesOf_any wx.heap.size (.slice (some ⟨g4, 0, none⟩) 14 c4) 14 (t + 1) 171600 F wx hx (Nat.le_refl _) (by omega) (by omega) HF.out (by omega))
        rw [show ((t + 1 : Nat) : Int) = (t : Int) + 1 by omega] at HD2
        unfold RetF0 at HD1 HD2
        have hL1 : (14 : Int) - (t : Int) = ((14 - t : Nat) : Int) := by omega
        have hL2 : ((14 - t : Nat) : Int) - 1 = ((14 - (t + 1) : Nat) : Int) := by omega
        have hLs : 14 - (t + 1) + 1 = 14 - t := by omega
        have hL0 : 14 - t ≤ 14 := by omega
        obtain ⟨Z, hZ, hZb⟩ : ∃ Z, Z = 2 ^ t * 171600 ∧ Z ≤ 8192 * 171600 := ⟨_, rfl, Nat.mul_le_mul_right _ (Nat.le_trans (Nat.pow_le_pow_right (by omega) (show t ≤ 13 by omega)) (by decide))⟩
        have HDs := Lib.hid (fun i (hi : i < 14 - t) => show -(Z : Int) ≤ Dn t F i ∧ Dn t F i ≤ Z by rw [hZ]; exact HF.out.Dn t i hi)
        clear hZ
        have hDD := Lib.hid (fun i => show Dn (t + 1) F i = Dn t F (i + 1) - Dn t F i from rfl)
        generalize hQ : Dn t F = G at *
        generalize hQ2 : Dn (t + 1) F = G2 at *
        generalize hL : 14 - t = L at *
        generalize hL' : 14 - (t + 1) = L2 at *
        clear hx0 hx1 HA0 hQ hQ2 hL hL'
        go_wp2_with fail
        refine (HD1.out).mono ?_; rintro e w7 ⟨v6, rfl, ho7, hb7⟩
        obtain ⟨g6, c6, rfl, _, _⟩ := own_posC ho7 (by omega)
        have R6 := Lib.hid (Rd.of_own ho7)
        have R4 := Lib.hid (rdN R4.out hb7)
        have R3 := Lib.hid (rdN R3.out hb7)
        have R2 := Lib.hid (rdN R2.out hb7)
        have Hb7 := Lib.hid (Hb6.out.trans (hb7.mono Hb6.out.size))
        have HD2 := Lib.hid (HD2.out w7 R3.out)
        clear ho7 hb7 Hb6 HD1
        have hw9 : IntKind.i64.wrap ((t : Int) + 1) = (t : Int) + 1 := IntWalk.i64_in _ (by omega)
        have ht13' : (t : Int) < 13 := by omega
        go_wp2_with fail
        refine (HD2.out).mono ?_; rintro e w8 ⟨v7, rfl, ho8, hb8⟩
        obtain ⟨g7, c7, rfl, _, _⟩ := own_posC ho8 (by omega)
        have R7 := Lib.hid (Rd.of_own ho8)
        have R6 := Lib.hid (rdN R6.out hb8)
        have R3 := Lib.hid (rdN R3.out hb8)
        have R2 := Lib.hid (rdN R2.out hb8)
        have Hb8 := Lib.hid (Hb7.out.trans (hb8.mono Hb7.out.size))
        clear ho8 hb8 Hb7 HD2
        go_wp2_with fail
        go_loopw [18] (fun i wr => ∃ k q : Nat, k ≤ L2 ∧ i = .int .i64 (k : Int) ∧ wr = w8.drewN q) (fun i _ => L2 - (intOf i).toNat)
        case atStart => exact ⟨0, 0, Nat.zero_le _, rfl, rfl⟩
        case round =>
          obtain ⟨k, q, hk, rfl, rfl⟩ := hrel
          by_cases hkm : k < L2
          · have hkm' : (k : Int) < (L2 : Int) := by omega
            obtain ⟨b1, o1, hA, _, hcc⟩ := rdF_all R7.out (by omega)
            obtain ⟨b2, o2, hA2, _, hcc2⟩ := rdF_all R6.out (by omega)
            obtain ⟨rfl, rfl⟩ : g7 = b1 ∧ 0 = o1 := by simpa using hA
            obtain ⟨rfl, rfl⟩ : g6 = b2 ∧ 0 = o2 := by simpa using hA2
            have q1 := hcc k hkm
            have q2 := hcc2 k (by omega)
            have q3 := hcc2 (k + 1) (by omega)
            have s2 := HDs.out k (by omega)
            have s3 := HDs.out (k + 1) (by omega)
            rw [hDD.out, Nat.zero_add] at q1
            rw [Nat.zero_add] at q2 q3
            generalize G k = x at *
            generalize G (k + 1) = y at *
            have hw1 : IntKind.i64.wrap ((k : Int) + 1) = (k : Int) + 1 := IntWalk.i64_in _ (by omega)
            have hw2 : ((k : Int) + 1).toNat = k + 1 := by omega
            have hw3 : (0 : Int) ≤ (k : Int) + 1 := by omega
            have hw4 : IntKind.i64.wrap (y - x) = y - x := IntWalk.i64_in _ (by omega)
            have hk1L : k + 1 < L := by omega
            have hk1L' : (k : Int) + 1 < (L : Int) := by omega
            clear hcc hcc2 hA hA2 s2 s3
            go_wp2_with fail
            go_quiet (fail)
            clear hw1 hw2 hw3
            go_wp2_with fail
            go_roundw
            case rel => exact ⟨k + 1, q + nq, by omega, by go_num, rfl⟩
            case measure => first | (simp [intOf]; done) | (simp [intOf]; omega)
          · have hkm' : (L2 : Int) ≤ (k : Int) := by omega
            obtain ⟨w9, hw9⟩ : ∃ x, x = w8.drewN q := ⟨_, rfl⟩
            rw [← hw9]
            have R3 := Lib.hid (show Rd w9 w9.heap.size _ _ _ _ by rw [hw9]; exact R3.out)
            have R2 := Lib.hid (show Rd w9 w9.heap.size _ _ _ _ by rw [hw9]; exact R2.out)
            have Hb9 := Lib.hid (show Below W.heap.size W w9 by rw [hw9]; exact below_drewN Hb8.out q)
            have HX := Lib.hid (ExtendTable_any w9.heap.size (.slice (some ⟨g4, 0, none⟩) 9 c4) 9 d 5 F w9 (Rd.head R3.out (by omega)) (Nat.le_refl _) (by omega) (by omega) (by omega) (HF.out.more (by omega))
              (zer_all fun i hi => zer_get Hld.out.2.2.1 i (by omega)) (fun t ht => by
                have := exv_eq F (d + 1) (9 + t - (d + 1)) (by omega) (by omega) (zer_get Hld.out.2.2.1 _ (by omega))
                rwa [show 9 + t - (d + 1) + (d + 1) = 9 + t by omega] at this))
            unfold RetF0 at HX
            rw [show ((5 : Nat) : Int) = 5 from rfl] at HX
            have HA1 := Lib.hid (fun wx hx => HAt.out 14 1 wx hx (by omega))
            have h9c : (9 : Int) ≤ (c4 : Int) := by omega
            have h9c' : 9 ≤ c4 := by omega
            unfold maxLen at hc4m
            clear hw9 Hb8
            go_wp2_with fail
            refine (HX.out).mono ?_; rintro e wA ⟨v8, rfl, hoA, hbA⟩
            obtain ⟨g8, c8, rfl, _, _⟩ := own_posC hoA (by omega)
            have R8 := Lib.hid (Rd.of_own hoA)
            have R3 := Lib.hid (rdN R3.out hbA)
            have R2 := Lib.hid (rdN R2.out hbA)
            have HbA := Lib.hid (Hb9.out.trans (hbA.mono Hb9.out.size))
            have HA2 := Lib.hid (HA1.out wA (H2.out.below HbA.out))
            clear hoA hbA Hb9 HX HA1
            go_wp2_with fail
            refine (HA2.out).mono ?_; rintro e wB ⟨⟨x, rfl, hx0, hx1, _⟩, rfl⟩
            have hx14 := hx1 (by omega)
            obtain ⟨s, rfl⟩ : ∃ s : Nat, x = (s : Int) := ⟨x.toNat, by omega⟩
            have hs14 : s < 14 := by omega
            have HSh := Lib.hid (ShiftNewton_any wA.heap.size _ m s c wA R2.out (Nat.le_refl _) (by omega) hm5 (by omega) HS.out)
            unfold RetF0 at HSh
            clear hx0 hx1 HA2
            go_wp2_with fail
            refine (HSh.out).mono ?_; rintro e wC ⟨v9, rfl, hoC, hbC⟩
            obtain ⟨g9, c9, rfl, _, _⟩ := own_posC hoC (by omega)
            have R9 := Lib.hid (Rd.of_own hoC)
            have R8 := Lib.hid (rdN R8.out hbC)
            have R3 := Lib.hid (rdN R3.out hbC)
            have R2 := Lib.hid (rdN R2.out hbC)
            have HbC := Lib.hid (HbA.out.trans (hbC.mono HbA.out.size))
            obtain ⟨b1, o1, hA, _, hcc⟩ := rdF_all R9.out (by omega)
            obtain ⟨rfl, rfl⟩ : g9 = b1 ∧ 0 = o1 := by simpa using hA
            obtain ⟨b2, o2, hA2, _, hcc2⟩ := rdF_all R3.out (by omega)
            obtain ⟨rfl, rfl⟩ : g4 = b2 ∧ 0 = o2 := by simpa using hA2
            have q1 := hcc 0 (by omega)
            have q2 := hcc2 s hs14
            rw [Hsh.out s (by omega), ← Hnv.out s hs14] at q1
            rw [Nat.zero_add] at q1 q2
            have HNV := Lib.hid (fun wx hx => NewtonValue_b wx.heap.size (.slice A3 m c3) m 1000000 s c wx hx (by omega) (by omega) hs14 (HS.out.more (by omega)) (Nat.le_refl _))
            rw [← Hnv.out s hs14] at HNV
            have HSm := Lib.hid (fun n => a2Same_b _ _ (.slice (some ⟨g8, 0, none⟩) 14 c8) (.slice (some ⟨g4, 0, none⟩) 14 c4) 14 F F (wC.drewN n) (R8.out.drewN n) (R3.out.drewN n) (by omega) (fun _ _ => rfl))
            generalize F s = y at *
            have hs14' : (s : Int) < 14 := by omega
            clear hcc hcc2 hA hA2 hoC hbC HSh HbA
            go_wp2_with fail
            go_quiet ((go_at_call 24; exact Calls.quiet_of (HSm.out _)))
            have HNV2 := Lib.hid (HNV.out (wC.drewN nq) (R2.out.drewN nq))
            have HbD := Lib.hid (below_drewN HbC.out nq)
            have q3 : (wC.drewN nq).cell? ⟨g4, s, none⟩ = some (.int .i64 y) := q2
            clear q1 HSm HNV
            go_wp2_with fail
            refine (HNV2.out).mono ?_; rintro e w1 ⟨rfl, rfl⟩
            go_wp2_with fail
            go_ret
            exact ⟨rfl, HbD.out⟩
end Go.Proofs.Ytddiielbmjkppaa
