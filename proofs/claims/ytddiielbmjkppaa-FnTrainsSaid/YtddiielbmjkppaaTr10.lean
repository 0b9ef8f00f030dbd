/- The law FnTrains: the walk. -/
import Derived.Test.YtddiielbmjkppaaTr9
import Derived.Test.YtddiielbmjkppaaLong
namespace Go.Proofs.Ytddiielbmjkppaa
open Go.RowKit Go.Joins

/-- a fraction in a block of its own -/
def FrIn (w : World) (g : Nat) (N D : Int) : Prop := w.cell? ⟨g, 0, none⟩ = some (.int .i64 N) ∧ w.cell? ⟨g, 1, none⟩ = some (.int .i64 D) ∧ g < w.heap.size
theorem FrIn.below {w w' : World} {g : Nat} {N D : Int} (h : FrIn w g N D) (hb : Below w.heap.size w w') : FrIn w' g N D :=
  ⟨(hb.cell (p := ⟨g, 0, none⟩) h.2.2).trans h.1, (hb.cell (p := ⟨g, 1, none⟩) h.2.2).trans h.2.1, Nat.lt_of_lt_of_le h.2.2 hb.size⟩
theorem FrIn.new (w : World) (N D : Int) : FrIn (w.alloc (.cells #[.int .i64 N, .int .i64 D] 47)) w.heap.size N D := ⟨box2.1, box2.2, by simp⟩
theorem jn_teeth {n m : Nat} {a b c d : Nat → Nat} (h : Teeth n a b) (k : Teeth m c d) : Teeth (n + m) (jn n a c) (jn n b d) := by
  intro i hi
  unfold jn
  by_cases hin : i < n
  · simp only [hin, if_true]; exact h i hin
  · simp only [hin, if_false]; exact k _ (by omega)
theorem bk_teeth {n : Nat} {a b : Nat → Nat} (h : Teeth n a b) : Teeth n (bk n b) (bk n a) := fun i hi => by
  have := h (n - 1 - i) (by omega)
  show 2 ≤ b (n - 1 - i) ∧ b (n - 1 - i) ≤ 120 ∧ 2 ≤ a (n - 1 - i) ∧ a (n - 1 - i) ≤ 120
  omega
theorem ft_teeth {x y : Nat} (hx : 1 ≤ x ∧ x ≤ 60) (hy : 1 ≤ y ∧ y ≤ 60) : Teeth 2 (ft x) (ft y) := fun i hi => by
  unfold ft
  split <;> omega
theorem ft_rt {num den : Nat} (h1 : 1 ≤ num) (k1 : 1 ≤ den) : (rt (ft (num / Nat.gcd num den)) (ft (den / Nat.gcd num den)) 2).1 * (den : Int) = (num : Int) * ((rt (ft (num / Nat.gcd num den)) (ft (den / Nat.gcd num den)) 2).2 : Int) := by
  have hg := Nat.gcd_pos_of_pos_left den (show 0 < num by omega)
  have hn := Nat.div_mul_cancel (Nat.gcd_dvd_left num den)
  have hd := Nat.div_mul_cancel (Nat.gcd_dvd_right num den)
  have hd0 : 0 < den / Nat.gcd num den := Nat.div_pos (Nat.le_of_dvd (by omega) (Nat.gcd_dvd_right num den)) hg
  generalize num / Nat.gcd num den = n at *
  generalize den / Nat.gcd num den = d at *
  have e1 : rt (ft n) (ft d) 1 = (-1, 1) := show (lowN (-(1 : Int) * ((2 : Nat) : Int)) (1 * 2), lowD (-(1 : Int) * ((2 : Nat) : Int)) (1 * 2)) = ((-1 : Int), (1 : Nat)) by decide
  have e2 : rt (ft n) (ft d) 2 = (lowN ((2 * n : Nat) : Int) (2 * d), lowD ((2 * n : Nat) : Int) (2 * d)) := by
    show (lowN (-(rt (ft n) (ft d) 1).1 * (ft n 1 : Int)) ((rt (ft n) (ft d) 1).2 * ft d 1), lowD (-(rt (ft n) (ft d) 1).1 * (ft n 1 : Int)) ((rt (ft n) (ft d) 1).2 * ft d 1)) = _
    rw [e1]
    have e3 : -((-1 : Int), (1 : Nat)).1 * (ft n 1 : Int) = ((2 * n : Nat) : Int) := by simp [ft]
    have e4 : ((-1 : Int), (1 : Nat)).2 * ft d 1 = 2 * d := by simp [ft]
    rw [e3, e4]
  rw [e2]
  exact low_cross (g := Nat.gcd num den) hn.symm hd.symm hd0 2 (by omega)

set_option maxRecDepth 100000 in
set_option maxHeartbeats 6400000 in
theorem walkFnTrains {W : World} (v1 : Value) (bs : List UInt8) (h1 : Rd W W.heap.size v1 bs.length 1 (bs.map byV)) (_m1 : bs.length ≤ maxLen) (v2 : Value) (cs : List UInt8) (h2 : Rd W W.heap.size v2 cs.length 1 (cs.map byV)) (_m2 : cs.length ≤ maxLen) :
    Calls Try.prog 5 #[v1, v2] W fun e w' => e = .returned (.bool true) ∧ Below W.heap.size W w' := by
  have HL := Lib.hid (a2Long_any _ _ _ _ _ _ _ _ W h1 h2)
  have HA := Lib.hid (A2Train_any W.heap.size v1 bs W h1 (Nat.le_refl _))
  have HA' := Lib.hid (fun wx hx hz => A2Train_any W.heap.size v2 cs wx hx hz)
  have HAt := Lib.hid (fun n k wx hx hk => a2At_any W.heap.size v1 bs n k wx hx hk)
  have HBt := Lib.hid (fun n k wx hx hk => a2At_any W.heap.size v2 cs n k wx hx hk)
  have H1 := Lib.hid h1
  have H2 := Lib.hid h2
  unfold RetTr at HA HA'
  have hb0 := Lib.hid (Below.refl W.heap.size W)
  obtain ⟨A1, c1, rfl⟩ := rd_sl h1
  obtain ⟨A2, c2, rfl⟩ := rd_sl h2
  clear h1 h2
  by_cases hlong : (decide (3000 < bs.length) || decide (3000 < cs.length)) = true
  · rw [hlong] at HL
    go_enter Try.func5, Try.ntmps5
    go_wp2_with fail
    refine (HL.out).mono ?_; rintro e w1 ⟨rfl, rfl⟩
    go_wp2_with fail
    go_ret
    exact ⟨rfl, hb0.out⟩
  · have hlong' : (decide (3000 < bs.length) || decide (3000 < cs.length)) = false := by simpa using hlong
    rw [hlong'] at HL
    clear hlong hlong'
    go_enter Try.func5, Try.ntmps5
    go_wp2_with fail
    refine (HL.out).mono ?_; rintro e w1 ⟨rfl, rfl⟩
    go_wp2_with fail
    refine (HA.out).mono ?_; rintro e w1 ⟨v3, n, a, b, rfl, hn1, hn3, hT, ho1, hb1⟩
    obtain ⟨g5, c5, rfl, hc5, hc5m⟩ := own_posC ho1 (by omega)
    have RA := Lib.hid (Rd.of_own ho1)
    have Hb1 := Lib.hid hb1
    have HA'2 := Lib.hid (HA'.out w1 (H2.out.below hb1) hb1.size)
    have HT := Lib.hid hT
    clear ho1 hb1 HA HA' hT
    go_wp2_with fail
    refine (HA'2.out).mono ?_; rintro e w2 ⟨v4, m, c, d, rfl, hm1, hm3, hS, ho2, hb2⟩
    obtain ⟨g6, c6, rfl, _, _⟩ := own_posC ho2 (by omega)
    have RB := Lib.hid (Rd.of_own ho2)
    have RA := Lib.hid (rdN RA.out hb2)
    have Hb2 := Lib.hid (Hb1.out.trans (hb2.mono Hb1.out.size))
    have HS := Lib.hid hS
    clear ho2 hb2 HA'2 hS Hb1
    have HR1 := Lib.hid (RatioOf_any w2.heap.size _ n a b w2 RA.out (Nat.le_refl _) hn1 (by omega) HT.out.teeth)
    unfold RetQ0 at HR1
    obtain ⟨r1, r2, r3, r4⟩ := rt31_bd HT.out n (Nat.le_refl _)
    obtain ⟨s1, s2, s3, s4⟩ := rt31_bd HS.out m (Nat.le_refl _)
    have hp1 : (31 : Nat) ^ n ≤ 29791 := Nat.le_trans (Nat.pow_le_pow_right (by omega) hn3) (by omega)
    have hp2 : (31 : Nat) ^ m ≤ 29791 := Nat.le_trans (Nat.pow_le_pow_right (by omega) hm3) (by omega)
    have hpos : ∀ k, k < n → 0 < a k ∧ 0 < b k := fun k hk => by have := HT.out k hk; omega
    have hpos2 : ∀ k, k < m → 0 < c k ∧ 0 < d k := fun k hk => by have := HS.out k hk; omega
    have Hj := Lib.hid (rt_join (fun k hk => (hpos k hk).1) (fun k hk => (hpos k hk).2) (fun k hk => (hpos2 k hk).1) (fun k hk => (hpos2 k hk).2))
    have Hk := Lib.hid (rt_back (fun k hk => (hpos k hk).1) (fun k hk => (hpos k hk).2))
    have Hdv := Lib.hid (show (rt a b n).2 ∣ lt a b n by
      obtain ⟨k, rfl⟩ : ∃ k, n = k + 1 := ⟨n - 1, by omega⟩
      exact lt_dvd a b k)
    have HTj := jn_teeth HT.out.teeth HS.out.teeth
    have Hjb := Lib.hid (show (rt (jn n a c) (jn n b d) (n + m)).1.natAbs ≤ 887503681 ∧ 0 < (rt (jn n a c) (jn n b d) (n + m)).2 ∧ (rt (jn n a c) (jn n b d) (n + m)).2 ≤ 887503681 by
      have h31 : Teeth31 (n + m) (jn n a c) (jn n b d) := by
        intro i hi
        unfold jn
        by_cases hin : i < n
        · simp only [hin, if_true]; exact HT.out i hin
        · simp only [hin, if_false]; exact HS.out _ (by omega)
      obtain ⟨x1, x2, x3, _⟩ := rt31_bd h31 (n + m) (Nat.le_refl _)
      have x4 : (31 : Nat) ^ (n + m) ≤ 31 ^ 6 := Nat.pow_le_pow_right (by omega) (by omega)
      have x5 : (31 : Nat) ^ 6 = 887503681 := rfl
      omega)
    have Hkb := Lib.hid (show (rt (bk n b) (bk n a) n).1.natAbs ≤ 29791 ∧ 0 < (rt (bk n b) (bk n a) n).2 ∧ (rt (bk n b) (bk n a) n).2 ≤ 29791 by
      have h31 : Teeth31 n (bk n b) (bk n a) := fun i hi => by
        have := HT.out (n - 1 - i) (by omega)
        show 2 ≤ b (n - 1 - i) ∧ b (n - 1 - i) ≤ 31 ∧ 2 ≤ a (n - 1 - i) ∧ a (n - 1 - i) ≤ 31
        omega
      obtain ⟨x1, x2, x3, _⟩ := rt31_bd h31 n (Nat.le_refl _)
      omega)
    have HTjh := Lib.hid HTj
    clear HTj hpos hpos2
    go_wp2_with fail
    refine (HR1.out).mono ?_; rintro e w3 ⟨rfl, hb3⟩
    have RA := Lib.hid (rdN RA.out hb3)
    have RB := Lib.hid (rdN RB.out hb3)
    have Hb3 := Lib.hid ((Hb2.out.trans (hb3.mono Hb2.out.size)))
    have FR := Lib.hid (FrIn.new w3 (rt a b n).1 ((rt a b n).2 : Int))
    clear hb3 HR1 Hb2
    have hal := Lib.hid (fun N D => (Below.refl w3.heap.size w3).alloc (Nat.le_refl _) (.cells #[.int .i64 N, .int .i64 D] 47))
    go_wp2_with fail
    have RA := Lib.hid (rdN RA.out (hal.out (rt a b n).1 ((rt a b n).2 : Int)))
    have RB := Lib.hid (rdN RB.out (hal.out (rt a b n).1 ((rt a b n).2 : Int)))
    have Hb4 := Lib.hid (Hb3.out.trans ((hal.out (rt a b n).1 ((rt a b n).2 : Int)).mono Hb3.out.size))
    clear hal Hb3
    generalize hg7 : w3.heap.size = g7 at *
    generalize w3.alloc (.cells #[.int .i64 (rt a b n).1, .int .i64 ((rt a b n).2 : Int)] 47) = w4 at *
    clear hg7
    have HR2 := Lib.hid (RatioOfS_any w4.heap.size _ m c d w4 RB.out (Nat.le_refl _) hm1 (by omega) HS.out.teeth)
    unfold RetQ0 at HR2
    refine (HR2.out).mono ?_; rintro e w5 ⟨rfl, hb5⟩
    have RA := Lib.hid (rdN RA.out hb5)
    have RB := Lib.hid (rdN RB.out hb5)
    have FR := Lib.hid (FR.out.below hb5)
    have Hb5 := Lib.hid ((Hb4.out.trans (hb5.mono Hb4.out.size)))
    have HFs := Lib.hid (FrIn.new w5 (rt c d m).1 ((rt c d m).2 : Int))
    clear hb5 HR2 Hb4
    have hal := Lib.hid ((Below.refl w5.heap.size w5).alloc (Nat.le_refl _) (.cells #[.int .i64 (rt c d m).1, .int .i64 ((rt c d m).2 : Int)] 47))
    go_wp2_with fail
    have RA := Lib.hid (rdN RA.out hal.out)
    have RB := Lib.hid (rdN RB.out hal.out)
    have FR := Lib.hid (FR.out.below hal.out)
    have Hb6 := Lib.hid (Hb5.out.trans (hal.out.mono Hb5.out.size))
    clear hal Hb5
    generalize hg9 : w5.heap.size = g9 at *
    generalize w5.alloc (.cells #[.int .i64 (rt c d m).1, .int .i64 ((rt c d m).2 : Int)] 47) = w6 at *
    clear hg9
    have HJ := Lib.hid (JoinTrains_any w6.heap.size g5 0 n c5 w6.heap.size g6 0 m _ a b c d w6 RA.out RB.out (Nat.le_refl _) (Nat.le_refl _) hn1 hm1 (by omega) HT.out.teeth HS.out.teeth)
    unfold RetG at HJ
    refine (HJ.out).mono ?_; rintro e w7 ⟨v5, rfl, ho7, hb7⟩
    obtain ⟨g8, c8, rfl, _, _⟩ := own_posC ho7 (by omega)
    have RJ := Lib.hid (Rd.of_own ho7)
    have RA := Lib.hid (rdN RA.out hb7)
    have FR := Lib.hid (FR.out.below hb7)
    have HFs := Lib.hid (HFs.out.below hb7)
    have Hb7 := Lib.hid ((Hb6.out.trans (hb7.mono Hb6.out.size)))
    clear ho7 hb7 HJ Hb6
    have HK := Lib.hid (BackTrain_any w7.heap.size _ n a b w7 RA.out (Nat.le_refl _) hn1 (by omega) HT.out.teeth)
    unfold RetG at HK
    go_wp2_with fail
    refine (HK.out).mono ?_; rintro e w8 ⟨v6, rfl, ho8, hb8⟩
    obtain ⟨gA, cA, rfl, _, _⟩ := own_posC ho8 (by omega)
    have RK := Lib.hid (Rd.of_own ho8)
    have RA := Lib.hid (rdN RA.out hb8)
    have RJ := Lib.hid (rdN RJ.out hb8)
    have FR := Lib.hid (FR.out.below hb8)
    have HFs := Lib.hid (HFs.out.below hb8)
    have Hb8 := Lib.hid ((Hb7.out.trans (hb8.mono Hb7.out.size)))
    clear ho8 hb8 HK Hb7
    have HV1 := Lib.hid (ValidTrainS_any w8.heap.size _ (n + m) _ _ w8 RJ.out (by omega) (by omega) HTjh.out)
    have HV2 := Lib.hid (ValidTrainS_any w8.heap.size _ n _ _ w8 RK.out (by omega) (by omega) (bk_teeth HT.out.teeth))
    obtain ⟨p0, p1, _⟩ := FR.out
    have hr0 : ((rt a b n).1 == 0) = false := by simp [r4]
    have hrd : ¬ (((rt a b n).2 : Int) < 1) := by omega
    have HR1 := Lib.hid (RatioOf_any w8.heap.size _ (n + m) _ _ w8 RJ.out (Nat.le_refl _) (by omega) (by omega) HTjh.out)
    unfold RetQ0 at HR1
    obtain ⟨j1, j2, j3⟩ := Hjb.out
    obtain ⟨k1, k2, k3⟩ := Hkb.out
    have Hjj := Hj.out
    have Hkk := Hk.out
    have Htw := Lib.hid (fun t (ht : lt a b n = t) => low_whole (N := (rt a b n).1) (D := (rt a b n).2) (n := t) r1 (by rw [← ht]; exact Hdv.out))
    have HLT := Lib.hid (fun wx hx => LeastTurns_any wx.heap.size g5 0 n c5 a b wx hx (Nat.le_refl _) hn1 hn3 HT.out hc5 hc5m)
    obtain ⟨L1, L2⟩ := lt_bd hn3 HT.out n (Nat.le_refl _)
    have HOT := Lib.hid (fun t wx hx (ht : t ≤ 1000) => OutputTurns_any wx.heap.size (.slice (some ⟨g5, 0, none⟩) n c5) n t a b wx hx (Nat.le_refl _) hn1 (by omega) HT.out.teeth ht)
    have HRK := Lib.hid (fun wx hx => RatioOf_any wx.heap.size (.slice (some ⟨gA, 0, none⟩) n cA) n (bk n b) (bk n a) wx hx (Nat.le_refl _) hn1 (by omega) (bk_teeth HT.out.teeth))
    unfold RetQ0 at HOT HRK
    generalize (rt (jn n a c) (jn n b d) (n + m)).1 = tN at *
    generalize (rt (jn n a c) (jn n b d) (n + m)).2 = tD at *
    generalize (rt (bk n b) (bk n a) n).1 = uN at *
    generalize (rt (bk n b) (bk n a) n).2 = uD at *
    generalize (rt a b n).1 = rN at *
    generalize (rt a b n).2 = rD at *
    generalize (rt c d m).1 = sN at *
    generalize (rt c d m).2 = sD at *
    go_wp2_with fail
    refine (HV1.out).mono ?_; rintro e w1 ⟨rfl, rfl⟩
    go_wp2_with fail
    refine (HV2.out).mono ?_; rintro e w1 ⟨rfl, rfl⟩
    go_wp2_with fail
    refine (HR1.out).mono ?_; rintro e w9 ⟨rfl, hb9⟩
    have RA := Lib.hid (rdN RA.out hb9)
    have RK := Lib.hid (rdN RK.out hb9)
    have FR := Lib.hid (FR.out.below hb9)
    have HFs := Lib.hid (HFs.out.below hb9)
    have Hb9 := Lib.hid ((Hb8.out.trans (hb9.mono Hb8.out.size)))
    have FT := Lib.hid (FrIn.new w9 tN (tD : Int))
    have hal := Lib.hid ((Below.refl w9.heap.size w9).alloc (Nat.le_refl _) (.cells #[.int .i64 tN, .int .i64 (tD : Int)] 47))
    clear hb9 HR1 Hb8 p0 p1 HV1 HV2 hr0 hrd
    go_wp2_with fail
    have RA := Lib.hid (rdN RA.out hal.out)
    have RK := Lib.hid (rdN RK.out hal.out)
    have FR := Lib.hid (FR.out.below hal.out)
    have HFs := Lib.hid (HFs.out.below hal.out)
    have HbA := Lib.hid (Hb9.out.trans (hal.out.mono Hb9.out.size))
    clear hal Hb9
    generalize hgT : w9.heap.size = gT at *
    generalize w9.alloc (.cells #[.int .i64 tN, .int .i64 (tD : Int)] 47) = wA at *
    clear hgT
    have HRK2 := Lib.hid (HRK.out wA RK.out)
    refine (HRK2.out).mono ?_; rintro e wB ⟨rfl, hbB⟩
    have RA := Lib.hid (rdN RA.out hbB)
    have FR := Lib.hid (FR.out.below hbB)
    have HFs := Lib.hid (HFs.out.below hbB)
    have FT := Lib.hid (FT.out.below hbB)
    have HbB := Lib.hid ((HbA.out.trans (hbB.mono HbA.out.size)))
    have FU := Lib.hid (FrIn.new wB uN (uD : Int))
    have hal := Lib.hid ((Below.refl wB.heap.size wB).alloc (Nat.le_refl _) (.cells #[.int .i64 uN, .int .i64 (uD : Int)] 47))
    clear hbB HRK2 HbA HRK
    go_upto_region 13 with (fail)
    have RA := Lib.hid (rdN RA.out hal.out)
    have FR := Lib.hid (FR.out.below hal.out)
    have HFs := Lib.hid (HFs.out.below hal.out)
    have FT := Lib.hid (FT.out.below hal.out)
    have HbC := Lib.hid (HbB.out.trans (hal.out.mono HbB.out.size))
    clear hal HbB
    generalize hgU : wB.heap.size = gU at *
    generalize wB.alloc (.cells #[.int .i64 uN, .int .i64 (uD : Int)] 47) = wC at *
    clear hgU
    obtain ⟨a0, a1, _⟩ := FR.out
    obtain ⟨b0, b1, _⟩ := HFs.out
    obtain ⟨c0, c1, _⟩ := FT.out
    obtain ⟨d0, d1, _⟩ := FU.out
    have n1 := abs_mul (A := 29791) (B := 29791) (a := (rD : Int)) (b := (sD : Int)) (by omega) (by omega)
    generalize hP1 : (rD : Int) * (sD : Int) = P1 at *
    have n2 := abs_mul (A := 887503681) (B := 887503681) (a := tN) (b := P1) (by omega) (by omega)
    have n3 := abs_mul (A := 29791) (B := 29791) (a := rN) (b := sN) (by omega) (by omega)
    generalize hP2 : tN * P1 = P2 at *
    generalize hP3 : rN * sN = P3 at *
    generalize hP4 : P3 * (tD : Int) = P4 at *
    have n5 := abs_mul (A := 29791) (B := 29791) (a := uN) (b := rN) (by omega) (by omega)
    generalize hP5 : uN * rN = P5 at *
    generalize hP6 : (uD : Int) * (rD : Int) = P6 at *
    subst Hjj
    subst Hkk
    have hP1b : -887503681 ≤ P1 ∧ P1 ≤ 887503681 := by omega
    have hP3b : -887503681 ≤ P3 ∧ P3 ≤ 887503681 := by omega
    have hP5b : -887503681 ≤ P5 ∧ P5 ≤ 887503681 := by omega
    have hP2b : -787662783788549761 ≤ P2 ∧ P2 ≤ 787662783788549761 := by omega
    clear n1 n2 n3 n5
    have HL2 := Lib.hid (HLT.out wC RA.out)
    generalize hL : lt a b n = L at *
    have Htw2 := Lib.hid (Htw.out L rfl)
    have hLb : (L : Int) ≤ 887503681 := by omega
    have hL1 : (1 : Int) ≤ (L : Int) := by omega
    go_wp2_with fail
    refine (HL2.out).mono ?_; rintro e wD ⟨rfl, hbD⟩
    have RA := Lib.hid (rdN RA.out hbD)
    have FR := Lib.hid (FR.out.below hbD)
    have HbD := Lib.hid ((HbC.out.trans (hbD.mono HbC.out.size)))
    clear hbD HL2 HbC a0 a1 b0 b1 c0 c1 d0 d1 hP1 hP2 hP3 hP4 hP5 hP6 hP1b hP3b hP5b hP2b
    by_cases hbig : (1000000 : Int) < (L : Int)
    · go_wp2_with fail
      go_ret
      exact ⟨rfl, HbD.out⟩
    · by_cases hsm : (L : Int) ≤ 1000
      · have HO := Lib.hid (HOT.out L wD RA.out (by omega))
        obtain ⟨tw1, tw2⟩ := Htw2.out
        rw [tw1] at HO
        have q1 := abs_mul (A := 29791) (B := 1000) (a := rN) (b := (L : Int)) (by omega) (by omega)
        have q2 := low_bd (rN * (L : Int)) rD
        generalize lowN (rN * (L : Int)) rD = x7 at *
        generalize hP7 : rN * (L : Int) = P7 at *
        have hwP : IntKind.i64.wrap P7 = P7 := IntWalk.i64_in _ (by omega)
        have hP7b : -29791000 ≤ P7 ∧ P7 ≤ 29791000 := by omega
        have h11 : ((1 : Nat) : Int) = 1 := rfl
        rw [h11] at HO
        clear q1 q2 tw1
        go_wp2_with fail
        refine (HO.out).mono ?_; rintro e wE ⟨rfl, hbE⟩
        have FR := Lib.hid (FR.out.below hbE)
        have HbE := Lib.hid ((HbD.out.trans (hbE.mono HbD.out.size)))
        have FO := Lib.hid (FrIn.new wE x7 1)
        have hal := Lib.hid ((Below.refl wE.heap.size wE).alloc (Nat.le_refl _) (.cells #[.int .i64 x7, .int .i64 1] 47))
        have FR := Lib.hid (FR.out.below hal.out)
        obtain ⟨a0, a1, _⟩ := FR.out
        obtain ⟨e0, e1, _⟩ := FO.out
        have HbF := Lib.hid (HbE.out.trans (hal.out.mono HbE.out.size))
        clear hbE HO HbD
        go_upto_region 22 with (fail)
        clear tw2 hP7b hwP hP7
        obtain ⟨wO, hwO⟩ : ∃ x, x = wE.alloc (.cells #[.int .i64 x7, .int .i64 1] 47) := ⟨_, rfl⟩
        rw [← hwO]
        rw [← hwO] at HbF
        clear hwO FO hal FR a0 a1 e0 e1
        have HX := Lib.hid (HAt.out 60 0 wO (H1.out.below HbF.out) (by omega))
        have HY := Lib.hid (HBt.out 60 0 wO (H2.out.below HbF.out) (by omega))
        go_wp2_with fail
        refine (HX.out).mono ?_; rintro e wx ⟨⟨x, rfl, hx0, hx1, _⟩, rfl⟩
        have hx60 := hx1 (by omega)
        obtain ⟨num, hnum, hnu1, hnu2⟩ : ∃ num : Nat, 1 + x = (num : Int) ∧ 1 ≤ num ∧ num ≤ 60 := ⟨(1 + x).toNat, by omega, by omega, by omega⟩
        clear hx1
        go_wp2_with fail
        refine (HY.out).mono ?_; rintro e wx ⟨⟨y, rfl, hy0, hy1, _⟩, rfl⟩
        have hy60 := hy1 (by omega)
        obtain ⟨den, hden, hde1, hde2⟩ : ∃ den : Nat, 1 + y = (den : Int) ∧ 1 ≤ den ∧ den ≤ 60 := ⟨(1 + y).toNat, by omega, by omega, by omega⟩
        clear hy1
        have HFT := Lib.hid (FindTrain_any num den wO hnu1 hnu2 hde1 hde2)
        unfold RetG at HFT
        have Hft := Lib.hid (ft_rt hnu1 hde1)
        have hg := Nat.gcd_pos_of_pos_left den (show 0 < num by omega)
        have hfT := Lib.hid (ft_teeth (x := num / Nat.gcd num den) (y := den / Nat.gcd num den) ⟨Nat.div_pos (Nat.le_of_dvd (by omega) (Nat.gcd_dvd_left num den)) hg, Nat.le_trans (Nat.div_le_self _ _) hnu2⟩ ⟨Nat.div_pos (Nat.le_of_dvd (by omega) (Nat.gcd_dvd_right num den)) hg, Nat.le_trans (Nat.div_le_self _ _) hde2⟩)
        generalize ft (num / Nat.gcd num den) = fa at *
        generalize ft (den / Nat.gcd num den) = fb at *
        clear hg HX HY
        go_wp2_with fail
        refine (HFT.out).mono ?_; rintro e wF ⟨vF, rfl, hoF, hbF⟩
        obtain ⟨gF, cF, rfl, _, _⟩ := own_posC hoF (by omega)
        have RF := Lib.hid (Rd.of_own hoF)
        have HbF := Lib.hid (HbF.out.trans (hbF.mono HbF.out.size))
        have HVF := Lib.hid (ValidTrainS_any wF.heap.size _ 2 _ _ wF RF.out (by omega) (by omega) hfT.out)
        have HRF := Lib.hid (RatioOfS_any wF.heap.size _ 2 fa fb wF RF.out (Nat.le_refl _) (by omega) (by omega) hfT.out)
        unfold RetQ0 at HRF
        obtain ⟨z1, z2, z3, _⟩ := rt_bd (show 2 ≤ 6 by omega) hfT.out 2 (Nat.le_refl _)
        have hft := Hft.out
        generalize (rt fa fb 2).1 = vN at *
        generalize (rt fa fb 2).2 = vD at *
        have m1 := abs_mul (A := 2985984000000) (B := 60) (a := vN) (b := (den : Int)) (by omega) (by omega)
        generalize hQ1 : vN * (den : Int) = Q1 at *
        generalize hQ2 : (num : Int) * (vD : Int) = Q2 at *
        have hwQ : IntKind.i64.wrap Q1 = Q1 := IntWalk.i64_in _ (by omega)
        subst hft
        clear hoF hbF HFT Hft z1 z2 z3
        go_wp2_with fail
        refine (HVF.out).mono ?_; rintro e w1 ⟨rfl, rfl⟩
        go_wp2_with fail
        refine (HRF.out).mono ?_; rintro e wG ⟨rfl, hbG⟩
        have HbG := Lib.hid ((HbF.out.trans (hbG.mono HbF.out.size)).alloc (Nat.le_trans HbF.out.size hbG.size) (.cells #[.int .i64 vN, .int .i64 (vD : Int)] 47))
        clear hbG HRF
        have hQb : -179159040000000 ≤ Q1 ∧ Q1 ≤ 179159040000000 := by omega
        clear m1
        go_wp2_with fail
        go_ret
        exact ⟨rfl, HbG.out⟩
      · go_upto_region 22 with (fail)
        have HX := Lib.hid (HAt.out 60 0 wD (H1.out.below HbD.out) (by omega))
        have HY := Lib.hid (HBt.out 60 0 wD (H2.out.below HbD.out) (by omega))
        go_wp2_with fail
        refine (HX.out).mono ?_; rintro e wx ⟨⟨x, rfl, hx0, hx1, _⟩, rfl⟩
        have hx60 := hx1 (by omega)
        obtain ⟨num, hnum, hnu1, hnu2⟩ : ∃ num : Nat, 1 + x = (num : Int) ∧ 1 ≤ num ∧ num ≤ 60 := ⟨(1 + x).toNat, by omega, by omega, by omega⟩
        clear hx1
        go_wp2_with fail
        refine (HY.out).mono ?_; rintro e wx ⟨⟨y, rfl, hy0, hy1, _⟩, rfl⟩
        have hy60 := hy1 (by omega)
        obtain ⟨den, hden, hde1, hde2⟩ : ∃ den : Nat, 1 + y = (den : Int) ∧ 1 ≤ den ∧ den ≤ 60 := ⟨(1 + y).toNat, by omega, by omega, by omega⟩
        clear hy1
        have HFT := Lib.hid (FindTrain_any num den wD hnu1 hnu2 hde1 hde2)
        unfold RetG at HFT
        have Hft := Lib.hid (ft_rt hnu1 hde1)
        have hg := Nat.gcd_pos_of_pos_left den (show 0 < num by omega)
        have hfT := Lib.hid (ft_teeth (x := num / Nat.gcd num den) (y := den / Nat.gcd num den) ⟨Nat.div_pos (Nat.le_of_dvd (by omega) (Nat.gcd_dvd_left num den)) hg, Nat.le_trans (Nat.div_le_self _ _) hnu2⟩ ⟨Nat.div_pos (Nat.le_of_dvd (by omega) (Nat.gcd_dvd_right num den)) hg, Nat.le_trans (Nat.div_le_self _ _) hde2⟩)
        generalize ft (num / Nat.gcd num den) = fa at *
        generalize ft (den / Nat.gcd num den) = fb at *
        clear hg HX HY
        go_wp2_with fail
        refine (HFT.out).mono ?_; rintro e wF ⟨vF, rfl, hoF, hbF⟩
        obtain ⟨gF, cF, rfl, _, _⟩ := own_posC hoF (by omega)
        have RF := Lib.hid (Rd.of_own hoF)
        have HbF := Lib.hid (HbD.out.trans (hbF.mono HbD.out.size))
        have HVF := Lib.hid (ValidTrainS_any wF.heap.size _ 2 _ _ wF RF.out (by omega) (by omega) hfT.out)
        have HRF := Lib.hid (RatioOfS_any wF.heap.size _ 2 fa fb wF RF.out (Nat.le_refl _) (by omega) (by omega) hfT.out)
        unfold RetQ0 at HRF
        obtain ⟨z1, z2, z3, _⟩ := rt_bd (show 2 ≤ 6 by omega) hfT.out 2 (Nat.le_refl _)
        have hft := Hft.out
        generalize (rt fa fb 2).1 = vN at *
        generalize (rt fa fb 2).2 = vD at *
        have m1 := abs_mul (A := 2985984000000) (B := 60) (a := vN) (b := (den : Int)) (by omega) (by omega)
        generalize hQ1 : vN * (den : Int) = Q1 at *
        generalize hQ2 : (num : Int) * (vD : Int) = Q2 at *
        have hwQ : IntKind.i64.wrap Q1 = Q1 := IntWalk.i64_in _ (by omega)
        subst hft
        clear hoF hbF HFT Hft z1 z2 z3
        go_wp2_with fail
        refine (HVF.out).mono ?_; rintro e w1 ⟨rfl, rfl⟩
        go_wp2_with fail
        refine (HRF.out).mono ?_; rintro e wG ⟨rfl, hbG⟩
        have HbG := Lib.hid ((HbF.out.trans (hbG.mono HbF.out.size)).alloc (Nat.le_trans HbF.out.size hbG.size) (.cells #[.int .i64 vN, .int .i64 (vD : Int)] 47))
        clear hbG HRF
        have hQb : -179159040000000 ≤ Q1 ∧ Q1 ≤ 179159040000000 := by omega
        clear m1
        go_wp2_with fail
        go_ret
        exact ⟨rfl, HbG.out⟩
end Go.Proofs.Ytddiielbmjkppaa
