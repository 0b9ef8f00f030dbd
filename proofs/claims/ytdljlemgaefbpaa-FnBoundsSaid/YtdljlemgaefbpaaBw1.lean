/- The law FnBounds: the walk. -/
import Derived.Test.YtdljlemgaefbpaaV4
namespace Go.Proofs.Ytdljlemgaefbpaa
open Go.RowKit Go.Joins
attribute [local go_sem ↓] Go.wp_at_zero Go.wp_at_succ

theorem btC_ok {m n : Nat} {f : Nat → Int} : btC m f (n : Int) = 0 → n ≤ 200 := by
  intro h
  unfold btC at h
  split at h
  · rename_i h1
    rw [Bool.and_eq_true] at h1
    have := inB_iff.1 h1.2
    omega
  · cases h
theorem btC_len {m k : Nat} {f : Nat → Int} {n : Int} (h1 : btC m f n = 0 → k = n.toNat) (h2 : btC m f n ≠ 0 → k = 0) : k ≤ 200 := by
  by_cases e : btC m f n = 0
  · rw [h1 e]
    unfold btC at e
    split at e
    · rename_i h3
      rw [Bool.and_eq_true] at h3
      have := inB_iff.1 h3.2
      omega
    · cases e
  · rw [h2 e]; omega
theorem tab_one_len' {code : Int} {n m m' : Nat} (h1 : code = 0 → m = n) (h2 : code ≠ 0 → m = 0) (h3 : code = 0 → m' = n) (h4 : code ≠ 0 → m' = 0) : m' = m := by
  by_cases e : code = 0
  · rw [h1 e, h3 e]
  · rw [h2 e, h4 e]
/-- what the law asks of a safe number of steps -/
theorem safe_fin {m R : Nat} {f : Nat → Int} {limit : Int} (hok : okS m f limit = true) (h : SafeAt (slipN f) m limit.toNat R) :
    R ≤ 100000 ∧ (sbP m f (R : Int)).2 = 0 ∧ (sbP m f (R : Int)).1 ≤ limit ∧ (R ≠ 100000 → ((sbP m f ((R : Int) + 1)).2 = 5 ∨ ((sbP m f ((R : Int) + 1)).2 = 0 ∧ limit < (sbP m f ((R : Int) + 1)).1))) := by
  unfold okS at hok
  rw [Bool.and_eq_true] at hok
  obtain ⟨hs, hl⟩ := hok
  have hl := inB_iff.1 hl
  obtain ⟨h1, h2, h3⟩ := h
  have e1 : sbP m f (R : Int) = (((sb (slipN f) m R : Nat) : Int), 0) := by rw [sbP_3 hs h1, if_neg (by omega)]
  refine ⟨h1, by rw [e1], by rw [e1]; show ((sb (slipN f) m R : Nat) : Int) ≤ limit; omega, fun hne => ?_⟩
  have h4 : limit.toNat < sb (slipN f) m (R + 1) := by omega
  rw [show ((R : Int) + 1) = ((R + 1 : Nat) : Int) by omega, sbP_3 hs (by omega)]
  by_cases h5 : 1000000000000 < sb (slipN f) m (R + 1)
  · rw [if_pos h5]; exact .inl rfl
  · rw [if_neg h5]
    exact .inr ⟨rfl, by show limit < ((sb (slipN f) m (R + 1) : Nat) : Int); omega⟩

set_option maxRecDepth 100000 in
set_option maxHeartbeats 6400000 in
theorem walkFnBounds {W : World} (v1 : Value) (bs : List UInt8) (h1 : Rd W W.heap.size v1 bs.length 1 (bs.map byV)) (_m1 : bs.length ≤ maxLen) :
    Calls Try.prog 4 #[v1] W fun e w' => e = .returned (.bool true) ∧ Below W.heap.size W w' := by
  have HL := Lib.hid (f6big_c _ _ _ _ W h1)
  have HA := Lib.hid (DrawSafeSteps_c W.heap.size v1 bs W h1 (Nat.le_refl _))
  have HA2 := Lib.hid (fun wx hx hz => DrawSumBound_c W.heap.size v1 bs wx hx hz)
  have HA3 := Lib.hid (fun wx hx hz => DrawBoundTable_c W.heap.size v1 bs wx hx hz)
  have HA4 := Lib.hid (fun wx hx hz => DrawGuardDigits_c W.heap.size v1 bs wx hx hz)
  have H1 := Lib.hid h1
  unfold RetDL at HA HA2 HA3
  unfold RetD3 at HA4
  have hb0 := Lib.hid (Below.refl W.heap.size W)
  obtain ⟨A1, c1, rfl⟩ := rd_sl h1
  clear h1
  by_cases hlong : decide (4096 < bs.length) = true
  · rw [hlong] at HL
    go_enter Try.func4, Try.ntmps4
    go_wp2_with fail
    refine (HL.out).mono ?_; rintro e w1 ⟨rfl, rfl⟩
    go_wp2_with fail
    go_ret
    exact ⟨rfl, hb0.out⟩
  · have hlong' : decide (4096 < bs.length) = false := by simpa using hlong
    rw [hlong'] at HL
    clear hlong hlong'
    go_enter Try.func4, Try.ntmps4
    go_wp2_with fail
    refine (HL.out).mono ?_; rintro e w1 ⟨rfl, rfl⟩
    go_wp2_with fail
    refine (HA.out).mono ?_; rintro e w1 ⟨v2, m, f, limit, rfl, hm, ho1, hb1⟩
    obtain ⟨A2, c2, rfl⟩ := own_sl ho1
    have R1 := Lib.hid (Rd.of_own ho1)
    have Hb1 := Lib.hid hb1
    have HS1 := Lib.hid (SafeStepsI_c w1.heap.size _ m f limit w1 R1.out (by omega))
    have HS2 := Lib.hid (SafeStepsS_c w1.heap.size _ m f limit w1 R1.out (by omega))
    clear ho1 hb1 HA
    go_wp2_with fail
    refine (HS1.out).mono ?_; rintro e w1 ⟨⟨sr, sc, rfl, hsafe⟩, rfl⟩
    have Hsafe := Lib.hid hsafe
    clear hsafe
    go_wp2_with fail
    refine (HS2.out).mono ?_; rintro e w2 ⟨⟨sr', sc', rfl, hsafe⟩, d2, hd2⟩
    obtain ⟨rfl, rfl⟩ := Hsafe.out.uniq hsafe
    have hb2 : Below w1.heap.size w1 w2 := by rw [hd2]; exact below_drewN (Below.refl _ _) d2
    have R1 := Lib.hid (rdN R1.out hb2)
    have Hb2 := Lib.hid (Hb1.out.trans (hb2.mono Hb1.out.size))
    have HAx := Lib.hid (HA2.out w2 (H1.out.below Hb2.out) Hb2.out.size)
    clear hb2 hd2 Hb1 HS1 HS2 HA2 hsafe
    go_wp2_with fail
    refine (HAx.out).mono ?_; rintro e w3 ⟨v3, m2, f2, steps, rfl, hm2, ho3, hb3⟩
    obtain ⟨A3, c3, rfl⟩ := own_sl ho3
    have R1 := Lib.hid (rdN R1.out hb3)
    have R2 := Lib.hid (Rd.of_own ho3)
    have Hb3 := Lib.hid (Hb2.out.trans (hb3.mono Hb2.out.size))
    have HS1 := Lib.hid (SumBoundI_c w3.heap.size _ m2 f2 steps w3 R2.out (by omega))
    have HS2 := Lib.hid (SumBoundS_c w3.heap.size _ m2 f2 steps w3 R2.out (by omega))
    generalize sbP m2 f2 steps = pr at *
    obtain ⟨pr1, pr2⟩ := pr
    clear ho3 hb3 Hb2 HAx
    go_wp2_with fail
    refine (HS1.out).mono ?_; rintro e w1 ⟨rfl, rfl⟩
    go_wp2_with fail
    refine (HS2.out).mono ?_; rintro e w4 ⟨rfl, d4, hd4⟩
    have hb4 : Below w3.heap.size w3 w4 := by rw [hd4]; exact below_drewN (Below.refl _ _) d4
    have R1 := Lib.hid (rdN R1.out hb4)
    have Hb4 := Lib.hid (Hb3.out.trans (hb4.mono Hb3.out.size))
    have HAx := Lib.hid (HA3.out w4 (H1.out.below Hb4.out) Hb4.out.size)
    clear hb4 hd4 Hb3 HS1 HS2 HA3 R2
    go_wp2_with fail
    refine (HAx.out).mono ?_; rintro e w5 ⟨v5, m3, f3, count, rfl, hm3, ho5, hb5⟩
    obtain ⟨A5, c5, rfl⟩ := own_sl ho5
    have R1 := Lib.hid (rdN R1.out hb5)
    have R3 := Lib.hid (Rd.of_own ho5)
    have Hb5 := Lib.hid (Hb4.out.trans (hb5.mono Hb4.out.size))
    have HT := Lib.hid (BoundTableI_c w5.heap.size _ m3 f3 count w5 R3.out (Nat.le_refl _) (by omega))
    unfold RetTab at HT
    clear ho5 hb5 Hb4 HAx
    go_wp2_with fail
    refine (HT.out).mono ?_; rintro e w6 ⟨v6, p, rfl, hp1, hp2, ho6, hb6⟩
    obtain ⟨A6, c6, rfl⟩ := own_sl ho6
    have R1 := Lib.hid (rdN R1.out hb6)
    have R3 := Lib.hid (rdN R3.out hb6)
    have R6 := Lib.hid (Rd.of_own ho6)
    have Hb6 := Lib.hid (Hb5.out.trans (hb6.mono Hb5.out.size))
    have HT := Lib.hid (BoundTableS_c w6.heap.size _ m3 f3 count w6 R3.out (Nat.le_refl _) (by omega))
    unfold RetTab at HT
    have Hp1 := Lib.hid hp1
    have Hp2 := Lib.hid hp2
    clear ho6 hb6 Hb5 hp1 hp2
    go_wp2_with fail
    refine (HT.out).mono ?_; rintro e w7 ⟨v7, p', rfl, hp3, hp4, ho7, hb7⟩
    obtain rfl := tab_one_len' Hp1.out Hp2.out hp3 hp4
    have hp200 := btC_len hp3 hp4
    obtain ⟨A7, c7, rfl⟩ := own_sl ho7
    have R1 := Lib.hid (rdN R1.out hb7)
    have R6 := Lib.hid (rdN R6.out hb7)
    have R7 := Lib.hid (Rd.of_own ho7)
    have Hb7 := Lib.hid (Hb6.out.trans (hb7.mono Hb6.out.size))
    have HAx := Lib.hid (HA4.out w7 (H1.out.below Hb7.out) Hb7.out.size)
    clear ho7 hb7 Hb6 HT HA4 Hp1 Hp2 hp3 hp4 R3 H1
    generalize btC m3 f3 count = btc at *
    go_wp2_with fail
    refine (HAx.out).mono ?_; rintro e w8 ⟨ga, gb, gc, rfl, hb8⟩
    have R1 := Lib.hid (rdN R1.out hb8)
    have R6 := Lib.hid (rdN R6.out hb8)
    have R7 := Lib.hid (rdN R7.out hb8)
    have Hb8 := Lib.hid (Hb7.out.trans (hb8.mono Hb7.out.size))
    have HG1 := Lib.hid (GuardDigitsI_c ga gb gc w8)
    clear hb8 Hb7 HAx
    go_wp2_with fail
    refine (HG1.out).mono ?_; rintro e w9 ⟨⟨gr, gx, rfl, hg⟩, hb9⟩
    have R1 := Lib.hid (rdN R1.out hb9)
    have R6 := Lib.hid (rdN R6.out hb9)
    have R7 := Lib.hid (rdN R7.out hb9)
    have Hb9 := Lib.hid (Hb8.out.trans (hb9.mono Hb8.out.size))
    have Hg := Lib.hid hg
    have HG2 := Lib.hid (GuardDigitsS_c ga gb gc w9)
    clear hb9 Hb8 HG1 hg
    go_wp2_with fail
    refine (HG2.out).mono ?_; rintro e wA ⟨⟨gr', gx', rfl, hg⟩, hbA⟩
    obtain ⟨rfl, rfl⟩ := Hg.out.uniq hg
    have R1 := Lib.hid (rdN R1.out hbA)
    have R6 := Lib.hid (rdN R6.out hbA)
    have R7 := Lib.hid (rdN R7.out hbA)
    have HbA := Lib.hid (Hb9.out.trans (hbA.mono Hb9.out.size))
    have HF := Lib.hid (f6ints_same _ _ _ _ p' _ _ wA R6.out R7.out (by omega) (fun _ _ => rfl))
    clear hbA Hb9 HG2 hg Hg
    go_wp2_with fail
    refine (HF.out).mono ?_; rintro e wB ⟨rfl, dB, hdB⟩
    have hbB : Below wA.heap.size wA wB := by rw [hdB]; exact below_drewN (Below.refl _ _) dB
    have R1 := Lib.hid (rdN R1.out hbB)
    have R6 := Lib.hid (rdN R6.out hbB)
    have HbB := Lib.hid (HbA.out.trans (hbB.mono HbA.out.size))
    clear hbB hdB HbA HF R7
    go_wp2_with fail
    go_loopw [28] (fun i wr => ∃ k d : Nat, 1 ≤ k ∧ i = .int .i64 (k : Int) ∧ wr = wB.drewN d) (fun i _ => p' - (intOf i).toNat)
    case atStart => exact ⟨1, 0, Nat.le_refl _, rfl, rfl⟩
    case round =>
      obtain ⟨k, d, hk1, rfl, hwr⟩ := hrel
      have Hw := Lib.hid hwr
      have Hrd := Lib.hid (show Rd wr wB.heap.size _ p' 1 (tab p' (sbT m3 f3)) by rw [hwr]; exact R6.out.drewN d)
      clear hwr
      by_cases hlt : k < p'
      · obtain ⟨b1, o1, hA, _, hcc⟩ := rdF_all Hrd.out (by omega)
        subst hA
        obtain ⟨j, rfl⟩ : ∃ j, k = j + 1 := ⟨k - 1, by omega⟩
        obtain ⟨K, hK⟩ : ∃ K, j + 1 = K := ⟨_, rfl⟩
        have x1 := hcc (j + 1) hlt
        have x0 := hcc j (by omega)
        have hmo := sb_mono (slipN f3) m3 j
        have hle : sbT m3 f3 j ≤ sbT m3 f3 (j + 1) := by
          show ((sb (slipN f3) m3 j : Nat) : Int) ≤ ((sb (slipN f3) m3 (j + 1) : Nat) : Int)
          omega
        rw [hK] at x1 hle hlt ⊢
        generalize sbT m3 f3 K = y1 at *
        generalize sbT m3 f3 j = y0 at *
        have hd1 : decide (y1 < y0) = false := by simp; omega
        have hlt' : (K : Int) < (p' : Int) := by omega
        have hm1 : IntKind.i64.wrap ((K : Int) - 1) = (j : Int) := by rw [IntWalk.i64_in _ (by omega)]; omega
        have hm2 : (j : Int) < (p' : Int) := by omega
        have hk2 : (1 : Int) ≤ (K : Int) := by omega
        have Hjk := Lib.hid hK
        clear hcc hmo hK hk1
        go_wp2_with fail
        go_quiet (fail)
        go_wp2_with fail
        go_roundw
        case rel => exact ⟨K + 1, d + nq, by omega, by go_num, by rw [Hw.out]; exact World.drewN_drewN _ _ _⟩
        case measure => first | (simp [intOf]; done) | (simp [intOf]; omega)
      · have hge : (p' : Int) ≤ (k : Int) := by omega
        have hbr : Below wB.heap.size wB wr := by rw [Hw.out]; exact below_drewN (Below.refl _ _) d
        have R1 := Lib.hid (rdN R1.out hbr)
        have Hbr := Lib.hid (HbB.out.trans (hbr.mono HbB.out.size))
        clear hbr hk1
        obtain ⟨wo, rfl⟩ : ∃ x, x = wr := ⟨_, rfl⟩
        by_cases hsc : sc = 0
        · have Hfin := Lib.hid (show ∃ R : Nat, sr = (R : Int) ∧ R ≤ 100000 ∧ (sbP m f (R : Int)).2 = 0 ∧ (sbP m f (R : Int)).1 ≤ limit ∧ (R ≠ 100000 → ((sbP m f ((R : Int) + 1)).2 = 5 ∨ ((sbP m f ((R : Int) + 1)).2 = 0 ∧ limit < (sbP m f ((R : Int) + 1)).1))) by
            rcases Hsafe.out with ⟨e, _⟩ | ⟨e, _⟩ | ⟨_, hok, R, e, hs⟩
            · omega
            · omega
            · exact ⟨R, e, safe_fin hok hs⟩)
          subst hsc
          obtain ⟨R, rfl, hR, hf1, hf2, hf3⟩ := Hfin.out
          have HS1 := Lib.hid (SumBoundI_c wo.heap.size _ m f (R : Int) wo R1.out (by omega))
          have HS2 := Lib.hid (SumBoundI_c wo.heap.size _ m f ((R : Int) + 1) wo R1.out (by omega))
          have Hf3 := Lib.hid hf3
          rw [hf1] at HS1
          generalize (sbP m f (R : Int)).1 = x1 at *
          clear hf3 hf1 Hfin Hsafe
          generalize (sbP m f ((R : Int) + 1)).1 = x2 at *
          generalize (sbP m f ((R : Int) + 1)).2 = e2 at *
          by_cases hR2 : R = 100000
          · subst hR2
            go_wp2_with fail
            refine (HS1.out).mono ?_; rintro e w1 ⟨rfl, rfl⟩
            go_wp2_with fail
            go_ret
            exact ⟨rfl, Hbr.out⟩
          · have hRb : ((R : Int) == 100000) = false := by simp; omega
            have hf := Hf3.out hR2
            rcases hf with rfl | ⟨rfl, hlx⟩
            · go_wp2_with fail
              refine (HS1.out).mono ?_; rintro e w1 ⟨rfl, rfl⟩
              go_wp2_with fail
              refine (HS2.out).mono ?_; rintro e w1 ⟨rfl, rfl⟩
              go_wp2_with fail
              go_ret
              exact ⟨rfl, Hbr.out⟩
            · go_wp2_with fail
              refine (HS1.out).mono ?_; rintro e w1 ⟨rfl, rfl⟩
              go_wp2_with fail
              refine (HS2.out).mono ?_; rintro e w1 ⟨rfl, rfl⟩
              go_wp2_with fail
              go_ret
              exact ⟨rfl, Hbr.out⟩
        · have hsc' : (sc != 0) = true := by simp [hsc]
          go_wp2_with fail
          go_ret
          exact ⟨rfl, Hbr.out⟩
end Go.Proofs.Ytdljlemgaefbpaa
