/- Differences, part 11: continued tables, shifts. -/
import Derived.Test.YtddiielbmjkppaaDd2
import Derived.Test.YtddiielbmjkppaaLib5
namespace Go.Proofs.Ytddiielbmjkppaa
open Go.RowKit Go.Joins

theorem exv_bd {f : Nat → Int} {d n C : Nat} (hd : d ≤ 5) (hf : ∀ j, j < d → -(C : Int) ≤ f (n - (j + 1)) ∧ f (n - (j + 1)) ≤ C) : ∀ j, j ≤ d → -((j * (C * 10) : Nat) : Int) ≤ exv f d n j ∧ exv f d n j ≤ ((j * (C * 10) : Nat) : Int)
  | 0, _ => by simp [exv]
  | j + 1, hj => by
    have h1 := exv_bd hd hf j (by omega)
    have h2 : binV d (j + 1) ≤ 10 := by
      obtain rfl | rfl | rfl | rfl | rfl | rfl : d = 0 ∨ d = 1 ∨ d = 2 ∨ d = 3 ∨ d = 4 ∨ d = 5 := by omega
      all_goals
        obtain rfl | rfl | rfl | rfl | rfl : j = 0 ∨ j = 1 ∨ j = 2 ∨ j = 3 ∨ j = 4 := by omega
        all_goals simp [binV, bin]
    have h3 := sg_bd j
    have h4 := abs_mul (A := 1) (B := 10) h3 (show -(10 : Int) ≤ (binV d (j + 1) : Int) ∧ (binV d (j + 1) : Int) ≤ 10 by omega)
    have h5 := abs_mul (A := 10) (B := C) (a := sg j * (binV d (j + 1) : Int)) (by omega) (hf j (by omega))
    show _ ≤ exv f d n j + sg j * (binV d (j + 1) : Int) * f (n - (j + 1)) ∧ exv f d n j + sg j * (binV d (j + 1) : Int) * f (n - (j + 1)) ≤ _
    rw [Nat.add_mul]
    omega

set_option maxRecDepth 100000 in
set_option maxHeartbeats 3200000 in
theorem ExtendTable_any (B : Nat) (v : Value) (n d r : Nat) (f : Nat → Int) (w : World) (h : Rd w B v n 1 (tab n f)) (hB : B ≤ w.heap.size) (hnr : n + r ≤ 30) (hd : d + 1 < n) (hd4 : d ≤ 4) (hS : Small 1000000 (n + r) f) (hz : zer (n - (d + 1)) (Dn (d + 1) f) = true)
    (hx : ∀ t, t < r → exv f (d + 1) (n + t) (d + 1) = f (n + t)) :
    Calls Try.prog 22 #[v, .int .i64 (d : Int), .int .i64 (r : Int)] w (RetF0 w (n + r) f) := by
  have hSn : Small 1000000 n f := fun i hi => hS i (by omega)
  have HE := Lib.hid (areValues_b B v n f w h (by omega) (by omega) (hSn.more (by omega)))
  have HI := Lib.hid (fun wx => isDegree_b d wx (by omega))
  have HB := Lib.hid (fun wx => between_any (r : Int) 0 30 wx)
  rw [inB_true (by omega) (by omega)] at HB
  have HH := Lib.hid (hasDegree_any B v n 1000000000 d f w h hB (by omega) hd (hSn.more (by omega)) (by
    have : 2 ^ (d + 1) ≤ 2 ^ 5 := Nat.pow_le_pow_right (by omega) (by omega)
    omega))
  rw [hz] at HH
  have HC := Lib.hid (fun wx hx hz => copyNumbers_any B v n f wx hx hz (by omega) (by omega))
  unfold RetF at HC
  have HA := Lib.hid (fun m (h1 : 1 ≤ m) (h2 : m ≤ n + r) wx vx hx => areValues_b wx.heap.size vx m f wx hx h1 (by omega) (fun i hi => by have := hS i (by omega); omega))
  have HS := Lib.hid hS
  have HX := Lib.hid hx
  have H := Lib.hid h
  have HBi := Lib.hid (fun (j : Nat) (hj : j < d + 1) wx => flipQ (binomial_any (d + 1) (j + 1) wx (by omega) (by omega)))
  obtain ⟨A, c, rfl⟩ := rd_sl h
  have hd4' : (d : Int) ≤ 4 := by omega
  have hnd : ¬ ((n : Int) ≤ (d : Int)) := by omega
  clear h hS hSn hz hx
  go_enter Try.func22, Try.ntmps22
  go_wp2_with fail
  refine (HE.out).mono ?_; rintro e w1 ⟨rfl, rfl⟩
  go_wp2_with fail
  refine (HI.out _).mono ?_; rintro e w1 ⟨rfl, rfl⟩
  go_wp2_with fail
  refine (HB.out _).mono ?_; rintro e w1 ⟨rfl, rfl⟩
  go_wp2_with fail
  refine (HH.out).mono ?_; rintro e w1 ⟨rfl, hb1⟩
  have HC1 := Lib.hid (HC.out w1 (H.out.below (hb1.mono hB)) (Nat.le_trans hB hb1.size))
  have Hb1 := Lib.hid hb1
  clear hb1
  go_wp2_with fail
  refine (HC1.out).mono ?_; rintro e w2 ⟨v2, rfl, ho2, hb2⟩
  obtain ⟨A2, c2, rfl⟩ := own_sl ho2
  have Ho2 := Lib.hid (ownsRow_le ho2 Hb1.out.size)
  have Hb2 := Lib.hid (Hb1.out.trans (hb2.mono Hb1.out.size))
  clear ho2 hb2
  go_wp2_with fail
  go_loopw [8, 36] (fun a i wr => ∃ t : Nat, t ≤ r ∧ i = .int .i64 (t : Int) ∧ wr.ownsRow w.heap.size 2 1 a (n + t) (tab (n + t) f) ∧ Below w.heap.size w wr) (fun _ i _ => r - (intOf i).toNat)
  case atStart => exact ⟨0, Nat.zero_le _, rfl, Ho2.out, Hb2.out⟩
  case round =>
    obtain ⟨t, ht, rfl, hown, hbl⟩ := hrel
    obtain ⟨g3, c3, rfl⟩ := own_posD hown (by omega)
    have Hown := Lib.hid hown
    have Hbl := Lib.hid hbl
    clear hown hbl
    obtain ⟨w3, rfl⟩ : ∃ x, x = wr := ⟨_, rfl⟩
    by_cases hlt : t < r
    · have hlt' : (t : Int) < (r : Int) := by omega
      have hr30 : (r : Int) ≤ 30 := by omega
      have HXt := Lib.hid (HX.out t hlt)
      have Hsc := Lib.hid (tab_succ (n + t) f)
      have HAt := Lib.hid (HA.out (n + t + 1) (by omega) (by omega))
      have hL : n + t < 30 := by omega
      have hLr : n + t < n + r := by omega
      have hdL : d + 1 < n + t := by omega
      have Hnt := Lib.hid (show n + (t + 1) = n + t + 1 from rfl)
      generalize hLL : n + t = L at *
      have HL := Lib.hid hLL
      clear hLL
      have hLi : (L : Int) < 30 := by omega
      go_wp2_with fail
      go_loopw [9, 10, 11] (fun a b i wy => ∃ (j k : Nat), j ≤ d + 1 ∧ i = .int .i64 ((j : Int) + 1) ∧ a = .int .i64 (exv f (d + 1) L j) ∧ b = .int .i64 (sg j) ∧ wy = w3.drewN k) (fun _ _ i _ => d + 2 - (intOf i).toNat)
      case atStart => exact ⟨0, 0, Nat.zero_le _, rfl, rfl, rfl, rfl⟩
      case round =>
        obtain ⟨j, k, hj, rfl, rfl, rfl, hwy⟩ := hrel
        obtain ⟨wq, rfl⟩ : ∃ x, x = wr := ⟨_, rfl⟩
        have Hwy := Lib.hid hwy
        have Hown' := Lib.hid (show wq.ownsRow w.heap.size 2 1 (.slice (some ⟨g3, 0, none⟩) L c3) L (tab L f) by rw [hwy]; exact Hown.out.drewN k)
        have Hbl' := Lib.hid (show Below w.heap.size w wq by rw [hwy]; exact below_drewN Hbl.out k)
        clear hwy
        have hjd : (j : Int) ≤ 5 := by omega
        by_cases hjl : j < d + 1
        · have hjl' : (j : Int) + 1 ≤ (d : Int) + 1 := by omega
          obtain ⟨p, hp⟩ : ∃ p, p = L - (j + 1) := ⟨_, rfl⟩
          obtain ⟨q0, _⟩ := own_cellD Hown'.out p (by omega)
          have hf := HS.out p (by omega)
          have n0 := exv_bd (f := f) (d := d + 1) (n := L) (C := 1000000) (by omega) (fun j hj => HS.out _ (by omega)) j (by omega)
          have n1 := exv_bd (f := f) (d := d + 1) (n := L) (C := 1000000) (by omega) (fun j hj => HS.out _ (by omega)) (j + 1) (by omega)
          have hj5 : j * (1000000 * 10) ≤ 5 * (1000000 * 10) := Nat.mul_le_mul_right _ (by omega)
          have hj6 : (j + 1) * (1000000 * 10) ≤ 6 * (1000000 * 10) := Nat.mul_le_mul_right _ (by omega)
          have hsg := sg_bd j
          have Hn := Lib.hid (show exv f (d + 1) L (j + 1) = exv f (d + 1) L j + sg j * (binV (d + 1) (j + 1) : Int) * f p by rw [hp]; rfl)
          have Hs := Lib.hid (show sg (j + 1) = -(sg j) from rfl)
          have HB1 := Lib.hid (HBi.out j hjl)
          have hbb := binV_bd (n := d + 1) (k := j + 1) (by omega)
          rw [Hn.out] at n1
          rw [show ((d + 1 : Nat) : Int) = (d : Int) + 1 by omega, show ((j + 1 : Nat) : Int) = (j : Int) + 1 by omega] at HB1
          generalize binV (d + 1) (j + 1) = b at *
          generalize exv f (d + 1) L j = s at *
          generalize hyv : f p = y at *
          clear hyv
          generalize sg j = e at *
          have m1 := abs_mul (A := 1) (B := 118264581564861424) hsg (show -(118264581564861424 : Int) ≤ (b : Int) ∧ (b : Int) ≤ 118264581564861424 by omega)
          generalize hP1 : e * (b : Int) = P1 at *
          generalize hP2 : P1 * y = P2 at *
          have hw1 : IntKind.i64.wrap P1 = P1 := IntWalk.i64_in _ (by omega)
          have hw2 : IntKind.i64.wrap P2 = P2 := IntWalk.i64_in _ (by omega)
          have hw3 : IntKind.i64.wrap (s + P2) = s + P2 := IntWalk.i64_in _ (by omega)
          have hw4 : IntKind.i64.wrap ((L : Int) - ((j : Int) + 1)) = (p : Int) := by rw [IntWalk.i64_in _ (by omega)]; omega
          have hw5 : IntKind.i64.wrap ((d : Int) + 1) = (d : Int) + 1 := IntWalk.i64_in _ (by omega)
          have hpL : (p : Int) < (L : Int) := by omega
          have hneg : IntKind.i64.wrap (-e) = -e := IntWalk.i64_in _ (by omega)
          clear n0 n1 hj5 hj6 hf m1 hbb hp
          go_wp2_with fail
          go_quiet ((go_at_call 179; exact Calls.quiet_of_same (HB1.out _)))
          clear hw1 hw2 hw3 hw4 hw5
          go_wp2_with fail
          go_roundw
          case rel => exact ⟨j + 1, k + nq, by omega, by go_num, by rw [Hn.out], by rw [Hs.out], by rw [Hwy.out]; exact World.drewN_drewN _ _ _⟩
          case measure => first | (simp [intOf]; done) | (simp [intOf]; omega)
        · obtain rfl : j = d + 1 := by omega
          have hjl' : ¬ (((d + 1 : Nat) : Int) + 1 ≤ (d : Int) + 1) := by omega
          rw [HXt.out]
          have Hsc' := Lib.hid Hsc.out
          generalize f L = y at *
          clear Hsc
          go_wp2_with (at_builtin; refine wpList_apd 24 2 _ 1 8 Try.underlying24 infoD rfl (by omega) _ _ rfl rfl w.heap.size _ L _ rfl Hown'.out #[.int .i64 y] 1 1 rfl rfl (by simp [Value.oneCell']) (by simp [maxLen]; omega) (by omega) Hbl'.out.size ?_; intro v7 w7 hown7 hg7; have Hb7 := Lib.hid (below_apd Hbl'.out Hown'.out hg7 (Nat.le_refl _) Hbl'.out.size); obtain ⟨A7, c7, rfl⟩ := own_sl hown7; have Hown7 := Lib.hid (show w7.ownsRow w.heap.size 2 1 (.slice A7 (L + 1) c7) (L + 1) (tab (L + 1) f) by rw [Hsc'.out]; exact hown7); have HA7 := Lib.hid (HAt.out w7 _ (Rd.of_own Hown7.out)); clear hown7 hg7)
          refine (HA7.out).mono ?_; rintro e w1 ⟨rfl, rfl⟩
          go_wp2_with fail
          go_roundw
          case rel => exact ⟨t + 1, by omega, by go_num, by rw [Hnt.out]; exact Hown7.out, Hb7.out⟩
          case measure => first | (simp [intOf]; done) | (simp [intOf]; omega)
    · obtain rfl : t = r := by omega
      go_wp2_with fail
      go_ret2
      exact ⟨_, rfl, Hown.out, Hbl.out⟩

theorem shp_self (c : Nat → Int) (k : Nat) : shp c k k = c k := by unfold shp; rw [if_neg (by omega)]
theorem shp_next (c : Nat → Int) (k : Nat) : shp c k (k + 1) = c (k + 1) := by unfold shp; rw [if_neg (by omega)]
theorem shp_zero (c : Nat → Int) : shp c 0 = c := by funext k; unfold shp; rw [if_neg (by omega)]

set_option maxRecDepth 100000 in
set_option maxHeartbeats 3200000 in
theorem ShiftNewton_any (B : Nat) (v : Value) (m r : Nat) (f : Nat → Int) (w : World) (h : Rd w B v m 1 (tab m f)) (hB : B ≤ w.heap.size) (h1 : 1 ≤ m) (hm : m ≤ 5) (hr : r ≤ 13) (hS : Small 20 m f) :
    Calls Try.prog 23 #[v, .int .i64 (r : Int)] w (RetF0 w m (shn m f r)) := by
  have HE := Lib.hid (areCoefs_any B v m f w h h1 (by omega) (hS.more (by omega)))
  have HB := Lib.hid (fun wx => between_any (r : Int) 0 30 wx)
  rw [inB_true (by omega) (by omega)] at HB
  have HC := Lib.hid (copyNumbers_any B v m f w h hB (by omega) (by omega))
  unfold RetF at HC
  have HSt := Lib.hid (fun t (ht : t ≤ 13) => show Small 1000000 m (shn m f t) from (shn_small hS h1 t).more (by
    have : 2 ^ t ≤ 2 ^ 13 := Nat.pow_le_pow_right (by omega) ht
    omega))
  have HA := Lib.hid (fun t (ht : t ≤ 13) wx vx hx => areCoefs_any wx.heap.size vx m (shn m f t) wx hx h1 (by omega) ((HSt.out t ht).more (by omega)))
  obtain ⟨A, c, rfl⟩ := rd_sl h
  clear h hS
  have hm5 : (m : Int) ≤ 5 := by omega
  have hr13 : (r : Int) ≤ 13 := by omega
  go_enter Try.func23, Try.ntmps23
  go_wp2_with fail
  refine (HE.out).mono ?_; rintro e w1 ⟨rfl, rfl⟩
  go_wp2_with fail
  refine (HB.out _).mono ?_; rintro e w1 ⟨rfl, rfl⟩
  go_wp2_with fail
  refine (HC.out).mono ?_; rintro e w2 ⟨v2, rfl, ho2, hb2⟩
  obtain ⟨g2, c2, rfl⟩ := own_posD ho2 (by omega)
  have hg2 := (ho2.lt g2 rfl).1
  have Ho2 := Lib.hid ho2
  have Hb2 := Lib.hid hb2
  clear ho2 hb2
  go_wp2_with fail
  go_loopw [17] (fun i wr => ∃ t : Nat, t ≤ r ∧ i = .int .i64 (t : Int) ∧ wr.ownsRow w.heap.size 2 1 (.slice (some ⟨g2, 0, none⟩) m c2) m (tab m (shn m f t)) ∧ Below w.heap.size w wr) (fun i _ => r - (intOf i).toNat)
  case atStart => exact ⟨0, Nat.zero_le _, rfl, Ho2.out, Hb2.out⟩
  case round =>
    obtain ⟨t, ht, rfl, hown, hbl⟩ := hrel
    have Hown := Lib.hid hown
    have Hbl := Lib.hid hbl
    clear hown hbl
    obtain ⟨w3, rfl⟩ : ∃ x, x = wr := ⟨_, rfl⟩
    by_cases hlt : t < r
    · have hlt' : (t : Int) < (r : Int) := by omega
      have Hs := Lib.hid (HSt.out t (by omega))
      have Hn := Lib.hid (show shn m f (t + 1) = shp (shn m f t) (m - 1) from rfl)
      have HAt := Lib.hid (HA.out (t + 1) (by omega))
      generalize hu : shn m f t = u at *
      generalize hu2 : shn m f (t + 1) = u2 at *
      have Hu2 := Lib.hid hu2
      clear hu hu2
      go_wp2_with fail
      go_loopw [7] (fun i wy => ∃ k : Nat, k + 1 ≤ m ∧ i = .int .i64 (k : Int) ∧ wy.ownsRow w.heap.size 2 1 (.slice (some ⟨g2, 0, none⟩) m c2) m (tab m (shp u k)) ∧ Below w.heap.size w wy) (fun i _ => m - (intOf i).toNat)
      case atStart => exact ⟨0, by omega, rfl, by rw [shp_zero]; exact Hown.out, Hbl.out⟩
      case round =>
        obtain ⟨k, hk, rfl, hown, hbl⟩ := hrel
        by_cases hkm : k + 1 < m
        · have hkm' : (k : Int) + 1 < (m : Int) := by omega
          have hk1 : (k : Int) < (m : Int) := by omega
          obtain ⟨q0, f0⟩ := own_cellD hown k (by omega)
          obtain ⟨q1, _⟩ := own_cellD hown (k + 1) (by omega)
          rw [shp_self] at q0
          rw [shp_next] at q1
          have s0 := Hs.out k (by omega)
          have s1 := Hs.out (k + 1) (by omega)
          have Ho6 := Lib.hid (show (wr.setCell ⟨g2, k, none⟩ (.int .i64 (u k + u (k + 1)))).ownsRow w.heap.size 2 1 (.slice (some ⟨g2, 0, none⟩) m c2) m (tab m (shp u (k + 1))) by
            have ho6 := (hown.stored k (.int .i64 (u k + u (k + 1)))).1
            rw [tab_set, shp_put] at ho6
            exact ho6)
          have Hb6 := Lib.hid (hbl.setCell (p := ⟨g2, k, none⟩) hg2 (.int .i64 (u k + u (k + 1))))
          generalize u k = x at *
          generalize u (k + 1) = y at *
          have hw1 : IntKind.i64.wrap (x + y) = x + y := IntWalk.i64_in _ (by omega)
          have hw2 : IntKind.i64.wrap ((k : Int) + 1) = (k : Int) + 1 := IntWalk.i64_in _ (by omega)
          have hw3 : ((k : Int) + 1).toNat = k + 1 := by omega
          have hw4 : (0 : Int) ≤ (k : Int) + 1 := by omega
          clear hown hbl s0 s1
          go_wp2_with fail
          go_region_law (fail)
          all_goals
            (try go_wp2_with fail)
            go_roundw
            case rel => exact ⟨k + 1, by omega, by go_num, Ho6.out.drew, Hb6.out.drew⟩
            case measure => first | (simp [intOf]; done) | (simp [intOf]; omega)
        · have hkm' : ¬ ((k : Int) + 1 < (m : Int)) := by omega
          have hkm2 : k = m - 1 := by omega
          rw [hkm2, ← Hn.out] at hown
          have Hown2 := Lib.hid hown
          have Hbl2 := Lib.hid hbl
          have HA2 := Lib.hid (HAt.out wr _ (Rd.of_own hown))
          clear hown hbl hkm2
          go_wp2_with fail
          refine (HA2.out).mono ?_; rintro e w1 ⟨rfl, rfl⟩
          go_wp2_with fail
          go_roundw
          case rel => exact ⟨t + 1, by omega, by go_num, by rw [Hu2.out]; exact Hown2.out, Hbl2.out⟩
          case measure => first | (simp [intOf]; done) | (simp [intOf]; omega)
    · obtain rfl : t = r := by omega
      go_wp2_with fail
      go_ret2
      exact ⟨_, rfl, Hown.out, Hbl.out⟩
end Go.Proofs.Ytddiielbmjkppaa
