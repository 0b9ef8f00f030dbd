/- The law FnRounded: the walk. -/
import Derived.Test.YtdljlemgaefbpaaU8
import Derived.Test.YtdljlemgaefbpaaLib7
namespace Go.Proofs.Ytdljlemgaefbpaa
open Go.RowKit Go.Joins
attribute [local go_sem ↓] Go.wp_at_zero Go.wp_at_succ

theorem tab_one_len {code : Int} {n m m' : Nat} (h1 : code = 0 → m = n) (h2 : code ≠ 0 → m = 0) (h3 : code = 0 → m' = n) (h4 : code ≠ 0 → m' = 0) : m' = m := by
  by_cases e : code = 0
  · rw [h1 e, h3 e]
  · rw [h2 e, h4 e]

theorem tab_len9 {a b : Int} {m : Nat} (h1 : oc a b = 0 → m = a.toNat + 1) (h2 : oc a b ≠ 0 → m = 0) : m ≤ 9 := by
  by_cases e : oc a b = 0
  · have := oc_ok e
    rw [h1 e]; omega
  · rw [h2 e]; omega

set_option maxRecDepth 100000 in
set_option maxHeartbeats 6400000 in
theorem walkFnRounded {W : World} (v1 : Value) (bs : List UInt8) (h1 : Rd W W.heap.size v1 bs.length 1 (bs.map byV)) (_m1 : bs.length ≤ maxLen) :
    Calls Try.prog 5 #[v1] W fun e w' => e = .returned (.bool true) ∧ Below W.heap.size W w' := by
  have HL := Lib.hid (f6big_c _ _ _ _ W h1)
  have HA := Lib.hid (DrawRoundTo_c W.heap.size v1 bs W h1 (Nat.le_refl _))
  have HA2 := Lib.hid (fun wx hx hz => DrawRoundTable_c W.heap.size v1 bs wx hx hz)
  have HA3 := Lib.hid (fun wx hx hz => DrawWorstPattern_c W.heap.size v1 bs wx hx hz)
  have H1 := Lib.hid h1
  unfold RetD2 at HA HA3
  unfold RetDL at HA2
  have hb0 := Lib.hid (Below.refl W.heap.size W)
  obtain ⟨A1, c1, rfl⟩ := rd_sl h1
  clear h1
  by_cases hlong : decide (4096 < bs.length) = true
  · rw [hlong] at HL
    go_enter Try.func5, Try.ntmps5
    go_wp2_with fail
    refine (HL.out).mono ?_; rintro e w1 ⟨rfl, rfl⟩
    go_wp2_with fail
    go_ret
    exact ⟨rfl, hb0.out⟩
  · have hlong' : decide (4096 < bs.length) = false := by simpa using hlong
    rw [hlong'] at HL
    clear hlong hlong'
    go_enter Try.func5, Try.ntmps5
    go_wp2_with fail
    refine (HL.out).mono ?_; rintro e w1 ⟨rfl, rfl⟩
    go_wp2_with fail
    refine (HA.out).mono ?_; rintro e w1 ⟨v, u, rfl, hb1⟩
    have HR1 := Lib.hid (fun wx => RoundToI_c v u wx)
    have HR2 := Lib.hid (fun wx => RoundToS_c v u wx)
    have HAx := Lib.hid (HA2.out w1 (H1.out.below hb1) hb1.size)
    have Hb1 := Lib.hid hb1
    clear hb1 HA HA2
    go_wp2_with fail
    refine (HR1.out _).mono ?_; rintro e w1 ⟨rfl, rfl⟩
    go_wp2_with fail
    refine (HR2.out _).mono ?_; rintro e w1 ⟨rfl, rfl⟩
    go_wp2_with fail
    refine (HAx.out).mono ?_; rintro e w2 ⟨v2, n, f, u2, rfl, hn, ho2, hb2⟩
    obtain ⟨A2, c2, rfl⟩ := own_sl ho2
    have R2 := Lib.hid (Rd.of_own ho2)
    have Hb2 := Lib.hid (Hb1.out.trans (hb2.mono Hb1.out.size))
    have HT1 := Lib.hid (RoundTableI_c w2.heap.size _ n f u2 w2 R2.out (Nat.le_refl _) (by omega))
    unfold RetTab at HT1
    clear ho2 hb2 Hb1 HAx HR1 HR2
    go_wp2_with fail
    refine (HT1.out).mono ?_; rintro e w3 ⟨v3, m, rfl, hm1, hm2, ho3, hb3⟩
    obtain ⟨A3, c3, rfl⟩ := own_sl ho3
    have R2 := Lib.hid (rdN R2.out hb3)
    have R3 := Lib.hid (Rd.of_own ho3)
    have Hb3 := Lib.hid (Hb2.out.trans (hb3.mono Hb2.out.size))
    have HT1 := Lib.hid (RoundTableS_c w3.heap.size _ n f u2 w3 R2.out (Nat.le_refl _) (by omega))
    unfold RetTab at HT1
    have Hm1 := Lib.hid hm1
    have Hm2 := Lib.hid hm2
    clear ho3 hb3 Hb2 hm1 hm2
    go_wp2_with fail
    refine (HT1.out).mono ?_; rintro e w4 ⟨v4, m', rfl, hm3, hm4, ho4, hb4⟩
    obtain rfl := tab_one_len Hm1.out Hm2.out hm3 hm4
    obtain ⟨A4, c4, rfl⟩ := own_sl ho4
    have R2 := Lib.hid (rdN R2.out hb4)
    have R3 := Lib.hid (rdN R3.out hb4)
    have R4 := Lib.hid (Rd.of_own ho4)
    have Hb4 := Lib.hid (Hb3.out.trans (hb4.mono Hb3.out.size))
    have HT1 := Lib.hid (WorstErrorI_c w4.heap.size _ n f u2 w4 R2.out (by omega))
    have HT2 := Lib.hid (WorstErrorS_c w4.heap.size _ n f u2 w4 R2.out (by omega))
    obtain ⟨ww, hww⟩ : ∃ z, (if rc n f u2 = 0 then wmx f u2 n else 0) = z := ⟨_, rfl⟩
    rw [hww] at HT1 HT2
    have Hww := Lib.hid hww
    clear hww
    have hmn : m' ≤ 201 := by
      by_cases e : rc n f u2 = 0
      · rw [hm3 e]; exact hn
      · rw [hm4 e]; omega
    clear ho4 hb4 Hb3 hm3 hm4 Hm1 Hm2 R2
    go_wp2_with fail
    refine (HT1.out).mono ?_; rintro e w1 ⟨rfl, rfl⟩
    go_wp2_with fail
    refine (HT2.out).mono ?_; rintro e w5 ⟨rfl, d5, hd5⟩
    have hb5 : Below w4.heap.size w4 w5 := by rw [hd5]; exact below_drewN (Below.refl _ _) d5
    have R3 := Lib.hid (rdN R3.out hb5)
    have R4 := Lib.hid (rdN R4.out hb5)
    have Hb5 := Lib.hid (Hb4.out.trans (hb5.mono Hb4.out.size))
    have HAx := Lib.hid (HA3.out w5 (H1.out.below Hb5.out) Hb5.out.size)
    clear hb5 hd5 Hb4 HT1 HT2 HA3
    go_wp2_with fail
    refine (HAx.out).mono ?_; rintro e w6 ⟨a, b, rfl, hb6⟩
    have R3 := Lib.hid (rdN R3.out hb6)
    have R4 := Lib.hid (rdN R4.out hb6)
    have Hb6 := Lib.hid (Hb5.out.trans (hb6.mono Hb5.out.size))
    have HT1 := Lib.hid (WorstPatternI_c a b w6)
    unfold RetTab at HT1
    clear hb6 Hb5 HAx H1
    go_wp2_with fail
    refine (HT1.out).mono ?_; rintro e w7 ⟨v7, p, rfl, hp1, hp2, ho7, hb7⟩
    obtain ⟨A7, c7, rfl⟩ := own_sl ho7
    have R3 := Lib.hid (rdN R3.out hb7)
    have R4 := Lib.hid (rdN R4.out hb7)
    have R7 := Lib.hid (Rd.of_own ho7)
    have Hb7 := Lib.hid (Hb6.out.trans (hb7.mono Hb6.out.size))
    have HT1 := Lib.hid (WorstPatternS_c a b w7)
    unfold RetTab at HT1
    have Hp1 := Lib.hid hp1
    have Hp2 := Lib.hid hp2
    clear ho7 hb7 Hb6 hp1 hp2
    go_wp2_with fail
    refine (HT1.out).mono ?_; rintro e w8 ⟨v8, p', rfl, hp3, hp4, ho8, hb8⟩
    obtain rfl := tab_one_len Hp1.out Hp2.out hp3 hp4
    have hp9 := tab_len9 hp3 hp4
    obtain ⟨A8, c8, rfl⟩ := own_sl ho8
    have R3 := Lib.hid (rdN R3.out hb8)
    have R4 := Lib.hid (rdN R4.out hb8)
    have R7 := Lib.hid (rdN R7.out hb8)
    have R8 := Lib.hid (Rd.of_own ho8)
    have Hb8 := Lib.hid (Hb7.out.trans (hb8.mono Hb7.out.size))
    have HD1 := Lib.hid (fun wx => DifferenceBoundI_c a b wx)
    have HD2 := Lib.hid (fun wx => DifferenceBoundS_c a b wx)
    have HT1 := Lib.hid (SpreadErrorI_c a b w8)
    unfold RetTab at HT1
    have Hp3 := Lib.hid hp3
    clear ho8 hb8 Hb7 Hp1 Hp2 hp3 hp4
    go_wp2_with fail
    refine (HD1.out _).mono ?_; rintro e w1 ⟨rfl, rfl⟩
    go_wp2_with fail
    refine (HD2.out _).mono ?_; rintro e w1 ⟨rfl, rfl⟩
    go_wp2_with fail
    refine (HT1.out).mono ?_; rintro e w9 ⟨v9, s, rfl, hs1, hs2, ho9, hb9⟩
    obtain ⟨A9, c9, rfl⟩ := own_sl ho9
    have R3 := Lib.hid (rdN R3.out hb9)
    have R4 := Lib.hid (rdN R4.out hb9)
    have R7 := Lib.hid (rdN R7.out hb9)
    have R8 := Lib.hid (rdN R8.out hb9)
    have R9 := Lib.hid (Rd.of_own ho9)
    have Hb9 := Lib.hid (Hb8.out.trans (hb9.mono Hb8.out.size))
    have HT1 := Lib.hid (SpreadErrorS_c a b w9)
    unfold RetTab at HT1
    have Hs1 := Lib.hid hs1
    have Hs2 := Lib.hid hs2
    clear ho9 hb9 Hb8 HD1 HD2 hs1 hs2
    go_wp2_with fail
    refine (HT1.out).mono ?_; rintro e wA ⟨v10, s', rfl, hs3, hs4, hoA, hbA⟩
    obtain rfl := tab_one_len Hs1.out Hs2.out hs3 hs4
    obtain ⟨A10, c10, rfl⟩ := own_sl hoA
    have R3 := Lib.hid (rdN R3.out hbA)
    have R4 := Lib.hid (rdN R4.out hbA)
    have R7 := Lib.hid (rdN R7.out hbA)
    have R8 := Lib.hid (rdN R8.out hbA)
    have R9 := Lib.hid (rdN R9.out hbA)
    have R10 := Lib.hid (Rd.of_own hoA)
    have HbA := Lib.hid (Hb9.out.trans (hbA.mono Hb9.out.size))
    have Hs3 := Lib.hid hs3
    have hs9 := tab_len9 hs3 hs4
    have HF := Lib.hid (f6ints_same _ _ _ _ m' _ _ wA R3.out R4.out (by omega) (fun _ _ => rfl))
    clear hoA hbA Hb9 Hs1 Hs2 hs3 hs4 R3 R4
    go_wp2_with fail
    refine (HF.out).mono ?_; rintro e wB ⟨rfl, dB, hdB⟩
    have hbB : Below wA.heap.size wA wB := by rw [hdB]; exact below_drewN (Below.refl _ _) dB
    have R7 := Lib.hid (rdN R7.out hbB)
    have R8 := Lib.hid (rdN R8.out hbB)
    have R9 := Lib.hid (rdN R9.out hbB)
    have R10 := Lib.hid (rdN R10.out hbB)
    have HbB := Lib.hid (HbA.out.trans (hbB.mono HbA.out.size))
    have HF := Lib.hid (f6ints_same _ _ _ _ p' _ _ wB R7.out R8.out (by omega) (fun _ _ => rfl))
    clear hbB hdB HbA R8
    go_wp2_with fail
    refine (HF.out).mono ?_; rintro e wC ⟨rfl, dC, hdC⟩
    have hbC : Below wB.heap.size wB wC := by rw [hdC]; exact below_drewN (Below.refl _ _) dC
    have R7 := Lib.hid (rdN R7.out hbC)
    have R9 := Lib.hid (rdN R9.out hbC)
    have R10 := Lib.hid (rdN R10.out hbC)
    have HbC := Lib.hid (HbB.out.trans (hbC.mono HbB.out.size))
    have HF := Lib.hid (f6ints_same _ _ _ _ s' _ _ wC R9.out R10.out (by omega) (fun _ _ => rfl))
    clear hbC hdC HbB R10
    go_wp2_with fail
    refine (HF.out).mono ?_; rintro e wD ⟨rfl, dD, hdD⟩
    have hbD : Below wC.heap.size wC wD := by rw [hdD]; exact below_drewN (Below.refl _ _) dD
    have R7 := Lib.hid (rdN R7.out hbD)
    have R9 := Lib.hid (rdN R9.out hbD)
    have HbD := Lib.hid (HbC.out.trans (hbD.mono HbC.out.size))
    have Hw3 := Lib.hid (fun h => wmx_fin Hww.out h)
    have Hv3 := Lib.hid (@rV_fin v u)
    have Hoc := Lib.hid (@oc_ok a b)
    clear hbD hdD HbC HF Hww
    generalize rc n f u2 = r3 at *
    generalize hrE : rE v u = r1 at *
    generalize hrV : rV v u = x at *
    clear hrE hrV
    by_cases hoc : oc a b = 0
    · have hp1 := Hp3.out hoc
      obtain ⟨⟨ha0, ha8⟩, hb0', hb1'⟩ := Hoc.out hoc
      have hs1 := Hs3.out hoc
      obtain ⟨N, rfl⟩ : ∃ N : Nat, a = (N : Int) := ⟨a.toNat, by omega⟩
      rw [Int.toNat_natCast] at hp1 hs1
      rw [Int.toNat_natCast] at R7 R9
      subst hp1
      subst hs1
      have hdb := dbV_at hoc
      have HN := Lib.hid hdb
      have hNi : N ≤ 8 := by omega
      rw [hdb, hoc]
      clear Hoc Hp3 Hs3 hdb hp9 hs9
      have HS7 := Lib.hid (fun r hr => wpf_dn (n := N) hb0' hb1' (r := r) (m := N + 1) hr)
      have Htop := Lib.hid (wpf_top b (show N < 9 by omega))
      have Hst := Lib.hid (sps_top (n := N) hb0' (by omega))
      have Hsb := Lib.hid (fun k hk => sps_bd (n := N) (k := k) hb0' hb1' (by omega) hk)
      have Hfb := Lib.hid (fun k hk => spf_bd (n := N) (k := k) hb0' hb1' (by omega) hk)
      generalize b * ((2 ^ N : Nat) : Int) = bd at *
      by_cases hr3 : r3 = 0
      · subst hr3
        obtain ⟨k1, k2, k3⟩ := Hw3.out rfl
        go_upto_region 23 with (fail)
        go_wp2_with fail
        go_loopw [33] (fun s wr => ∃ (r : Nat) (A : Option Addr) (c : Nat), r ≤ N ∧ s = .slice A (N + 1 - r) c ∧ Rd wr wr.heap.size (.slice A (N + 1 - r) c) (N + 1 - r) 1 (tab (N + 1 - r) (Dn r (wpf N b))) ∧ Below wD.heap.size wD wr) (fun s _ => match s with | .slice _ n _ => n | _ => 0)
        case atStart => exact ⟨0, A7, c7, Nat.zero_le _, rfl, R7.out, Below.refl _ _⟩
        case round =>
          obtain ⟨r, A, c, hr, rfl, hrd, hbr⟩ := hrel
          have Hrd := Lib.hid hrd
          have Hbr := Lib.hid hbr
          clear hrd hbr
          by_cases hrN : r < N
          · obtain ⟨L, hL⟩ : ∃ L, N + 1 - r = L + 1 := ⟨N - r, by omega⟩
            rw [hL] at Hrd ⊢
            have HSm := Lib.hid (HS7.out r (by omega))
            rw [hL] at HSm
            obtain ⟨wo, rfl⟩ : ∃ x, x = wr := ⟨_, rfl⟩
            have hbo := Lib.hid ((Below.refl wo.heap.size wo).alloc (Nat.le_refl _) (.cells #[] 2))
            have hoo := Lib.hid (World.ownsRow_made (base := wo.heap.size) (e := 2) (size := 1) wo #[] 0 (Nat.le_refl _) (by simp [maxLen]) rfl)
            have hL1 : 1 ≤ L := by omega
            have hL9 : L ≤ 8 := by omega
            have HL1 := Lib.hid hL
            have HrN := Lib.hid hrN
            have hLi : (1 : Int) < (L : Int) + 1 := by omega
            clear hL hrN hr
            go_wp2_with fail
            go_loopw [34, 35] (fun s i wy => ∃ k m : Nat, m + 1 = k ∧ m ≤ L ∧ i = .int .i64 (k : Int) ∧ wy.ownsRow wo.heap.size 2 1 s m (tab m (D (Dn r (wpf N b)))) ∧ Below wo.heap.size wo wy) (fun _ i _ => L + 2 - (intOf i).toNat)
            case atStart => exact ⟨1, 0, rfl, Nat.zero_le _, rfl, hoo.out, hbo.out⟩
            case round =>
              obtain ⟨k, m, hkm, hk, rfl, hown, hbl⟩ := hrel
              obtain ⟨A5, c5, rfl⟩ := own_sl hown
              have Hown := Lib.hid hown
              have Hbl := Lib.hid hbl
              clear hown
              by_cases hlt : k < L + 1
              · obtain ⟨b1, o1, hA, _, hcc⟩ := rdF_all (Hrd.out.below hbl) (by omega)
                subst hA
                have q1 := hcc k hlt
                have q0 := hcc m (by omega)
                have s1 := HSm.out k hlt
                have s0 := HSm.out m (by omega)
                have HD := Lib.hid (show D (Dn r (wpf N b)) m = Dn r (wpf N b) k - Dn r (wpf N b) m by rw [← hkm]; rfl)
                have Hsc := Lib.hid (tab_succ m (D (Dn r (wpf N b))))
                clear hcc
                generalize Dn r (wpf N b) k = y1 at *
                generalize Dn r (wpf N b) m = y0 at *
                have hlt' : (k : Int) < (L : Int) + 1 := by omega
                have hm1 : IntKind.i64.wrap ((k : Int) - 1) = (m : Int) := by rw [IntWalk.i64_in _ (by omega)]; omega
                have hm2 : (m : Int) < (L : Int) + 1 := by omega
                have hkz : (0 : Int) ≤ (k : Int) := by omega
                have hmz : (0 : Int) ≤ (m : Int) := by omega
                have hd : IntKind.i64.wrap (y1 - y0) = y1 - y0 := IntWalk.i64_in _ (by omega)
                have Hkm := Lib.hid hkm
                have hm3 : m < 1000 := by omega
                have hm4 : m ≤ 7 := by omega
                have hmx : m + 1 ≤ maxLen := by simp [maxLen]; omega
                have hby : (m + 1) * 8 ≤ 140737488355328 := by omega
                clear hbl s1 s0 hkm hk
                go_wp2_with fail
                refine wp_region_noPanic ?_
                refine wp_region_L [13,12] (fun w' => w'.cell? ⟨b1, o1 + k, none⟩ = some (.int .i64 y1) ∧ w'.cell? ⟨b1, o1 + m, none⟩ = some (.int .i64 y0)) (by kernel_rfl) (⟨q1, q0⟩) (fun hHeld => ?_)
                refine take_F (i := 0) (d := some 210) (v := ?_) (by kernel_rfl) (by kernel_rfl) rfl rfl (by kernel_rfl) (by kernel_rfl) (by kernel_rfl) (fun _ _ _ h => h) (Or.inl ⟨by rfl, ?_⟩) (by assumption) ?_
                rotate_left
                · (intro w hSw; (try dsimp only at hSw); go_simp; (try (with_reducible rfl)))
                simp only [Act.put, List.setIfInBounds_toArray, List.set_cons_zero, List.set_cons_succ]
                refine take_F (i := 1) (d := some 211) (v := ?_) (by kernel_rfl) (by kernel_rfl) rfl rfl (by kernel_rfl) (by kernel_rfl) (by kernel_rfl) (fun _ _ _ h => h) (Or.inl ⟨by rfl, ?_⟩) (by assumption) ?_
                rotate_left
                · (intro w hSw; (try dsimp only at hSw); go_simp; (try (with_reducible rfl)))
                simp only [Act.put, List.setIfInBounds_toArray, List.set_cons_zero, List.set_cons_succ]
                refine take_F (i := 2) (d := some 212) (v := ?_) (by kernel_rfl) (by kernel_rfl) rfl rfl (by kernel_rfl) (by kernel_rfl) (by kernel_rfl) (fun _ _ _ h => h) (Or.inl ⟨by rfl, ?_⟩) (by assumption) ?_
                rotate_left
                · (intro w hSw; (try dsimp only at hSw); go_simp; (try (with_reducible rfl)))
                simp only [Act.put, List.setIfInBounds_toArray, List.set_cons_zero, List.set_cons_succ]
                refine take_F (i := 3) (d := some 213) (v := ?_) (by kernel_rfl) (by kernel_rfl) rfl rfl (by kernel_rfl) (by kernel_rfl) (by kernel_rfl) (fun _ _ _ h => h) (Or.inl ⟨by rfl, ?_⟩) (by assumption) ?_
                rotate_left
                · (intro w hSw; (try dsimp only at hSw); go_simp; (try (with_reducible rfl)))
                simp only [Act.put, List.setIfInBounds_toArray, List.set_cons_zero, List.set_cons_succ]
                refine take_L [11,10,4] (i := 4) (d := some 214) (v := ?_) (by kernel_rfl) (by kernel_rfl) (by kernel_rfl) (by kernel_rfl) rfl rfl (by kernel_rfl) (by kernel_rfl) (by kernel_rfl) (fun _ _ _ h => h) (Or.inl ⟨by rfl, ?_⟩) (by assumption) ?_
                rotate_left
                · (intro w hSw; (try dsimp only at hSw); go_simp; (try (with_reducible rfl)))
                simp only [Act.put, List.setIfInBounds_toArray, List.set_cons_zero, List.set_cons_succ]
                refine take_F (i := 5) (d := some 215) (v := ?_) (by kernel_rfl) (by kernel_rfl) rfl rfl (by kernel_rfl) (by kernel_rfl) (by kernel_rfl) (fun _ _ _ h => h) (Or.inl ⟨by rfl, ?_⟩) (by assumption) ?_
                rotate_left
                · (intro w hSw; (try dsimp only at hSw); go_simp; (try (with_reducible rfl)))
                simp only [Act.put, List.setIfInBounds_toArray, List.set_cons_zero, List.set_cons_succ]
                refine take_F (i := 6) (d := some 216) (v := ?_) (by kernel_rfl) (by kernel_rfl) rfl rfl (by kernel_rfl) (by kernel_rfl) (by kernel_rfl) (fun _ _ _ h => h) (Or.inl ⟨by rfl, ?_⟩) (by assumption) ?_
                rotate_left
                · (intro w hSw; (try dsimp only at hSw); go_simp; (try (with_reducible rfl)))
                simp only [Act.put, List.setIfInBounds_toArray, List.set_cons_zero, List.set_cons_succ]
                refine take_F (i := 7) (d := some 217) (v := ?_) (by kernel_rfl) (by kernel_rfl) rfl rfl (by kernel_rfl) (by kernel_rfl) (by kernel_rfl) (fun _ _ _ h => h) (Or.inl ⟨by rfl, ?_⟩) (by assumption) ?_
                rotate_left
                · (intro w hSw; (try dsimp only at hSw); go_simp; (try (with_reducible rfl)))
                simp only [Act.put, List.setIfInBounds_toArray, List.set_cons_zero, List.set_cons_succ]
                refine take_F (i := 8) (d := some 218) (v := ?_) (by kernel_rfl) (by kernel_rfl) rfl rfl (by kernel_rfl) (by kernel_rfl) (by kernel_rfl) (fun _ _ _ h => h) (Or.inl ⟨by rfl, ?_⟩) (by assumption) ?_
                rotate_left
                · (intro w hSw; (try dsimp only at hSw); go_simp; (try (with_reducible rfl)))
                simp only [Act.put, List.setIfInBounds_toArray, List.set_cons_zero, List.set_cons_succ]
                refine take_L [11,10,9] (i := 9) (d := some 219) (v := ?_) (by kernel_rfl) (by kernel_rfl) (by kernel_rfl) (by kernel_rfl) rfl rfl (by kernel_rfl) (by kernel_rfl) (by kernel_rfl) (fun _ _ _ h => h) (Or.inl ⟨by rfl, ?_⟩) (by assumption) ?_
                rotate_left
                · (intro w hSw; (try dsimp only at hSw); go_simp; (try (with_reducible rfl)))
                simp only [Act.put, List.setIfInBounds_toArray, List.set_cons_zero, List.set_cons_succ]
                refine take_F (i := 10) (d := some 220) (v := ?_) (by kernel_rfl) (by kernel_rfl) rfl rfl (by kernel_rfl) (by kernel_rfl) (by kernel_rfl) (fun _ _ _ h => h) (Or.inl ⟨by rfl, ?_⟩) (by assumption) ?_
                rotate_left
                · (intro w hSw; (try dsimp only at hSw); go_simp; (try (with_reducible rfl)))
                simp only [Act.put, List.setIfInBounds_toArray, List.set_cons_zero, List.set_cons_succ]
                refine call_L (i := 11) (d := (some 221)) rfl rfl (by kernel_rfl) (fun Kq hKq => ?_)
                go_simp
                refine hKq.out _ _ (⟨cell_alloc (w := wr.drew) q1 _, cell_alloc (w := wr.drew) q0 _⟩) (fun hHeld => ?_)
                clear hKq Kq
                (try simp only [Act.put, List.setIfInBounds_toArray, List.set_cons_zero, List.set_cons_succ])
                refine late_L (i := 12) (d := (some 222)) (by kernel_rfl) rfl rfl (by kernel_rfl) (fun Kq hKq => ?_)
                refine step_apd 24 2 _ 1 8 Try.underlying24 infoD rfl (by omega) _ _ (by rfl) (by rfl) wo.heap.size _ m _ (by rfl) Hown.out #[.int .i64 (y1 - y0)] 1 1 (by rfl) (by rfl) (by simp [Value.oneCell']) hmx hby Hbl.out.size ?_; intro v8 w8 hown8 hg8
                have Hb8 := Lib.hid (below_apd Hbl.out Hown.out hg8 (Nat.le_refl _) Hbl.out.size)
                obtain ⟨A8, c8, rfl⟩ := own_sl hown8
                have Hown8 := Lib.hid hown8
                clear hown8 hg8
                refine hKq.out _ _ ?_
                clear hKq Kq
                simp only [Act.put, List.setIfInBounds_toArray]
                refine late_L (i := 13) (d := (some 34)) (by kernel_rfl) rfl rfl (by kernel_rfl) (fun Kq hKq => ?_)
                go_simp
                refine hKq.out _ _ ?_
                clear hKq Kq
                refine done_L (by kernel_rfl) ?_ _
                refine NoPanic.normal ?_
                (try go_wp2_with fail)
                go_roundw
                case rel => exact ⟨k + 1, m + 1, by rw [Hkm.out], by have := Hkm.out; omega, by go_num, by rw [Hsc.out, HD.out]; exact Hown8.out, Hb8.out⟩
                case measure => simp [intOf]; omega
              · have hmL : m = L := by omega
                have hlt' : (L : Int) + 1 ≤ (k : Int) := by omega
                subst hmL
                go_wp2_with fail
                go_roundw
                case rel =>
                  have hL := HL1.out
                  have hrN := HrN.out
                  have e : N + 1 - (r + 1) = m := by omega
                  refine ⟨r + 1, A5, c5, by omega, by rw [e], ?_, Hbr.out.trans (Hbl.out.mono Hbr.out.size)⟩
                  rw [e]
                  exact Rd.of_own Hown.out
                case measure => simp
          · obtain rfl : r = N := by omega
            have e1 : r + 1 - r = 1 := by omega
            rw [e1] at Hrd ⊢
            obtain ⟨b1, o1, hA, _, hcc⟩ := rdF_all Hrd.out (by omega)
            subst hA
            have q0 := hcc 0 (by omega)
            rw [Htop.out, Nat.add_zero] at q0
            have R9w := Lib.hid (R9.out.below Hbr.out)
            obtain ⟨wo, rfl⟩ : ∃ x, x = wr := ⟨_, rfl⟩
            clear hcc e1 hrN
            go_wp2_with fail
            go_loopw [36, 37] (fun s i wy => ∃ k d : Nat, k ≤ r + 1 ∧ i = .int .i64 (k : Int) ∧ s = .int .i64 (sps r b k) ∧ wy = wo.drewN d) (fun _ i _ => r + 1 - (intOf i).toNat)
            case atStart => exact ⟨0, 0, Nat.zero_le _, rfl, rfl, rfl⟩
            case round =>
              obtain ⟨k, d, hk, rfl, rfl, rfl⟩ := hrel
              by_cases hlt : k < r + 1
              · obtain ⟨b2, o2, hA, _, hcc⟩ := rdF_all (R9w.out.drewN d) (by omega)
                subst hA
                have x0 := hcc k hlt
                have xb := Hfb.out k (by omega)
                have sb := Hsb.out k (by omega)
                have Hn := Lib.hid (show sps r b (k + 1) = sps r b k + max (spf r b k) (-(spf r b k)) from rfl)
                generalize spf r b k = z at *
                generalize sps r b k = s at *
                have hlt' : (k : Int) < (r : Int) + 1 := by omega
                have hkz : (0 : Int) ≤ (k : Int) := by omega
                clear hcc
                have z1 : IntKind.i64.wrap (-z) = -z := IntWalk.i64_in _ (by omega)
                by_cases hx : z < -z
                · have hmz : max z (-z) = -z := by omega
                  rw [hmz] at Hn
                  have z2 : IntKind.i64.wrap (s + -z) = s + -z := IntWalk.i64_in _ (by omega)
                  clear hmz
                  go_wp2_with fail
                  refine wp_region_noPanic ?_
                  refine wp_region_L [] (fun w' => w'.cell? ⟨b2, o2 + k, none⟩ = some (.int .i64 z)) (by kernel_rfl) (x0) (fun hHeld => ?_)
                  refine take_F (i := 0) (d := some 230) (v := ?_) (by kernel_rfl) (by kernel_rfl) rfl rfl (by kernel_rfl) (by kernel_rfl) (by kernel_rfl) (fun _ _ _ h => h) (Or.inl ⟨by rfl, ?_⟩) (by assumption) ?_
                  rotate_left
                  · (intro w hSw; (try dsimp only at hSw); go_simp; (try (with_reducible rfl)))
                  simp only [Act.put, List.setIfInBounds_toArray, List.set_cons_zero, List.set_cons_succ]
                  refine take_F (i := 1) (d := some 231) (v := ?_) (by kernel_rfl) (by kernel_rfl) rfl rfl (by kernel_rfl) (by kernel_rfl) (by kernel_rfl) (fun _ _ _ h => h) (Or.inl ⟨by rfl, ?_⟩) (by assumption) ?_
                  rotate_left
                  · (intro w hSw; (try dsimp only at hSw); go_simp; (try (with_reducible rfl)))
                  simp only [Act.put, List.setIfInBounds_toArray, List.set_cons_zero, List.set_cons_succ]
                  refine take_F (i := 2) (d := some 232) (v := ?_) (by kernel_rfl) (by kernel_rfl) rfl rfl (by kernel_rfl) (by kernel_rfl) (by kernel_rfl) (fun _ _ _ h => h) (Or.inl ⟨by rfl, ?_⟩) (by assumption) ?_
                  rotate_left
                  · (intro w hSw; (try dsimp only at hSw); go_simp; (try (with_reducible rfl)))
                  simp only [Act.put, List.setIfInBounds_toArray, List.set_cons_zero, List.set_cons_succ]
                  refine take_F (i := 3) (d := some 233) (v := ?_) (by kernel_rfl) (by kernel_rfl) rfl rfl (by kernel_rfl) (by kernel_rfl) (by kernel_rfl) (fun _ _ _ h => h) (Or.inl ⟨by rfl, ?_⟩) (by assumption) ?_
                  rotate_left
                  · (intro w hSw; (try dsimp only at hSw); go_simp; (try (with_reducible rfl)))
                  simp only [Act.put, List.setIfInBounds_toArray, List.set_cons_zero, List.set_cons_succ]
                  refine take_L [4] (i := 4) (d := some 234) (v := ?_) (by kernel_rfl) (by kernel_rfl) (by kernel_rfl) (by kernel_rfl) rfl rfl (by kernel_rfl) (by kernel_rfl) (by kernel_rfl) (fun _ _ _ h => h) (Or.inl ⟨by rfl, ?_⟩) (by assumption) ?_
                  rotate_left
                  · (intro w hSw; (try dsimp only at hSw); go_simp; (try (with_reducible rfl)))
                  simp only [Act.put, List.setIfInBounds_toArray, List.set_cons_zero, List.set_cons_succ]
                  refine take_F (i := 5) (d := some 235) (v := ?_) (by kernel_rfl) (by kernel_rfl) rfl rfl (by kernel_rfl) (by kernel_rfl) (by kernel_rfl) (fun _ _ _ h => h) (Or.inl ⟨by rfl, ?_⟩) (by assumption) ?_
                  rotate_left
                  · (intro w hSw; (try dsimp only at hSw); go_simp; (try (with_reducible rfl)))
                  simp only [Act.put, List.setIfInBounds_toArray, List.set_cons_zero, List.set_cons_succ]
                  refine take_F (i := 6) (d := some 236) (v := ?_) (by kernel_rfl) (by kernel_rfl) rfl rfl (by kernel_rfl) (by kernel_rfl) (by kernel_rfl) (fun _ _ _ h => h) (Or.inl ⟨by rfl, ?_⟩) (by assumption) ?_
                  rotate_left
                  · (intro w hSw; (try dsimp only at hSw); go_simp; (try (with_reducible rfl)))
                  simp only [Act.put, List.setIfInBounds_toArray, List.set_cons_zero, List.set_cons_succ]
                  refine take_F (i := 7) (d := some 237) (v := ?_) (by kernel_rfl) (by kernel_rfl) rfl rfl (by kernel_rfl) (by kernel_rfl) (by kernel_rfl) (fun _ _ _ h => h) (Or.inl ⟨by rfl, ?_⟩) (by assumption) ?_
                  rotate_left
                  · (intro w hSw; (try dsimp only at hSw); go_simp; (try (with_reducible rfl)))
                  simp only [Act.put, List.setIfInBounds_toArray, List.set_cons_zero, List.set_cons_succ]
                  refine take_L [8] (i := 8) (d := some 238) (v := ?_) (by kernel_rfl) (by kernel_rfl) (by kernel_rfl) (by kernel_rfl) rfl rfl (by kernel_rfl) (by kernel_rfl) (by kernel_rfl) (fun _ _ _ h => h) (Or.inl ⟨by rfl, ?_⟩) (by assumption) ?_
                  rotate_left
                  · (intro w hSw; (try dsimp only at hSw); go_simp; (try (with_reducible rfl)))
                  simp only [Act.put, List.setIfInBounds_toArray, List.set_cons_zero, List.set_cons_succ]
                  refine take_F (i := 9) (d := some 239) (v := ?_) (by kernel_rfl) (by kernel_rfl) rfl rfl (by kernel_rfl) (by kernel_rfl) (by kernel_rfl) (fun _ _ _ h => h) (Or.inl ⟨by rfl, ?_⟩) (by assumption) ?_
                  rotate_left
                  · (intro w hSw; (try dsimp only at hSw); go_simp; (try (with_reducible rfl)))
                  simp only [Act.put, List.setIfInBounds_toArray, List.set_cons_zero, List.set_cons_succ]
                  refine take_F (i := 10) (d := some 240) (v := ?_) (by kernel_rfl) (by kernel_rfl) rfl rfl (by kernel_rfl) (by kernel_rfl) (by kernel_rfl) (fun _ _ _ h => h) (Or.inl ⟨by rfl, ?_⟩) (by assumption) ?_
                  rotate_left
                  · (intro w hSw; (try dsimp only at hSw); go_simp; (try (with_reducible rfl)))
                  simp only [Act.put, List.setIfInBounds_toArray, List.set_cons_zero, List.set_cons_succ]
                  refine take_F (i := 11) (d := some 241) (v := ?_) (by kernel_rfl) (by kernel_rfl) rfl rfl (by kernel_rfl) (by kernel_rfl) (by kernel_rfl) (fun _ _ _ h => h) (Or.inl ⟨by rfl, ?_⟩) (by assumption) ?_
                  rotate_left
                  · (intro w hSw; (try dsimp only at hSw); go_simp; (try (with_reducible rfl)))
                  simp only [Act.put, List.setIfInBounds_toArray, List.set_cons_zero, List.set_cons_succ]
                  refine take_F (i := 12) (d := some 36) (v := ?_) (by kernel_rfl) (by kernel_rfl) rfl rfl (by kernel_rfl) (by kernel_rfl) (by kernel_rfl) (fun _ _ _ h => h) (Or.inl ⟨by rfl, ?_⟩) (by assumption) ?_
                  rotate_left
                  · (intro w hSw; (try dsimp only at hSw); go_simp; (try (with_reducible rfl)))
                  simp only [Act.put, List.setIfInBounds_toArray, List.set_cons_zero, List.set_cons_succ]
                  refine done_L (by kernel_rfl) ?_ _
                  refine NoPanic.normal ?_
                  (try go_wp2_with fail)
                  go_roundw
                  case rel => exact ⟨k + 1, d + 1, by omega, by go_num, by first | (rw [Hn.out]; done) | (rw [Hn.out, if_neg (by omega), z2]), rfl⟩
                  case measure => simp [intOf]; omega
                · have hmz : max z (-z) = z := by omega
                  rw [hmz] at Hn
                  have z2 : IntKind.i64.wrap (s + z) = s + z := IntWalk.i64_in _ (by omega)
                  clear hmz
                  go_wp2_with fail
                  refine wp_region_noPanic ?_
                  refine wp_region_L [] (fun w' => w'.cell? ⟨b2, o2 + k, none⟩ = some (.int .i64 z)) (by kernel_rfl) (x0) (fun hHeld => ?_)
                  refine take_F (i := 0) (d := some 230) (v := ?_) (by kernel_rfl) (by kernel_rfl) rfl rfl (by kernel_rfl) (by kernel_rfl) (by kernel_rfl) (fun _ _ _ h => h) (Or.inl ⟨by rfl, ?_⟩) (by assumption) ?_
                  rotate_left
                  · (intro w hSw; (try dsimp only at hSw); go_simp; (try (with_reducible rfl)))
                  simp only [Act.put, List.setIfInBounds_toArray, List.set_cons_zero, List.set_cons_succ]
                  refine take_F (i := 1) (d := some 231) (v := ?_) (by kernel_rfl) (by kernel_rfl) rfl rfl (by kernel_rfl) (by kernel_rfl) (by kernel_rfl) (fun _ _ _ h => h) (Or.inl ⟨by rfl, ?_⟩) (by assumption) ?_
                  rotate_left
                  · (intro w hSw; (try dsimp only at hSw); go_simp; (try (with_reducible rfl)))
                  simp only [Act.put, List.setIfInBounds_toArray, List.set_cons_zero, List.set_cons_succ]
                  refine take_F (i := 2) (d := some 232) (v := ?_) (by kernel_rfl) (by kernel_rfl) rfl rfl (by kernel_rfl) (by kernel_rfl) (by kernel_rfl) (fun _ _ _ h => h) (Or.inl ⟨by rfl, ?_⟩) (by assumption) ?_
                  rotate_left
                  · (intro w hSw; (try dsimp only at hSw); go_simp; (try (with_reducible rfl)))
                  simp only [Act.put, List.setIfInBounds_toArray, List.set_cons_zero, List.set_cons_succ]
                  refine take_F (i := 3) (d := some 233) (v := ?_) (by kernel_rfl) (by kernel_rfl) rfl rfl (by kernel_rfl) (by kernel_rfl) (by kernel_rfl) (fun _ _ _ h => h) (Or.inl ⟨by rfl, ?_⟩) (by assumption) ?_
                  rotate_left
                  · (intro w hSw; (try dsimp only at hSw); go_simp; (try (with_reducible rfl)))
                  simp only [Act.put, List.setIfInBounds_toArray, List.set_cons_zero, List.set_cons_succ]
                  refine take_L [4] (i := 4) (d := some 234) (v := ?_) (by kernel_rfl) (by kernel_rfl) (by kernel_rfl) (by kernel_rfl) rfl rfl (by kernel_rfl) (by kernel_rfl) (by kernel_rfl) (fun _ _ _ h => h) (Or.inl ⟨by rfl, ?_⟩) (by assumption) ?_
                  rotate_left
                  · (intro w hSw; (try dsimp only at hSw); go_simp; (try (with_reducible rfl)))
                  simp only [Act.put, List.setIfInBounds_toArray, List.set_cons_zero, List.set_cons_succ]
                  refine take_F (i := 5) (d := some 235) (v := ?_) (by kernel_rfl) (by kernel_rfl) rfl rfl (by kernel_rfl) (by kernel_rfl) (by kernel_rfl) (fun _ _ _ h => h) (Or.inl ⟨by rfl, ?_⟩) (by assumption) ?_
                  rotate_left
                  · (intro w hSw; (try dsimp only at hSw); go_simp; (try (with_reducible rfl)))
                  simp only [Act.put, List.setIfInBounds_toArray, List.set_cons_zero, List.set_cons_succ]
                  refine take_F (i := 6) (d := some 236) (v := ?_) (by kernel_rfl) (by kernel_rfl) rfl rfl (by kernel_rfl) (by kernel_rfl) (by kernel_rfl) (fun _ _ _ h => h) (Or.inl ⟨by rfl, ?_⟩) (by assumption) ?_
                  rotate_left
                  · (intro w hSw; (try dsimp only at hSw); go_simp; (try (with_reducible rfl)))
                  simp only [Act.put, List.setIfInBounds_toArray, List.set_cons_zero, List.set_cons_succ]
                  refine take_F (i := 7) (d := some 237) (v := ?_) (by kernel_rfl) (by kernel_rfl) rfl rfl (by kernel_rfl) (by kernel_rfl) (by kernel_rfl) (fun _ _ _ h => h) (Or.inl ⟨by rfl, ?_⟩) (by assumption) ?_
                  rotate_left
                  · (intro w hSw; (try dsimp only at hSw); go_simp; (try (with_reducible rfl)))
                  simp only [Act.put, List.setIfInBounds_toArray, List.set_cons_zero, List.set_cons_succ]
                  refine take_L [8] (i := 8) (d := some 238) (v := ?_) (by kernel_rfl) (by kernel_rfl) (by kernel_rfl) (by kernel_rfl) rfl rfl (by kernel_rfl) (by kernel_rfl) (by kernel_rfl) (fun _ _ _ h => h) (Or.inl ⟨by rfl, ?_⟩) (by assumption) ?_
                  rotate_left
                  · (intro w hSw; (try dsimp only at hSw); go_simp; (try (with_reducible rfl)))
                  simp only [Act.put, List.setIfInBounds_toArray, List.set_cons_zero, List.set_cons_succ]
                  refine take_F (i := 9) (d := some 239) (v := ?_) (by kernel_rfl) (by kernel_rfl) rfl rfl (by kernel_rfl) (by kernel_rfl) (by kernel_rfl) (fun _ _ _ h => h) (Or.inl ⟨by rfl, ?_⟩) (by assumption) ?_
                  rotate_left
                  · (intro w hSw; (try dsimp only at hSw); go_simp; (try (with_reducible rfl)))
                  simp only [Act.put, List.setIfInBounds_toArray, List.set_cons_zero, List.set_cons_succ]
                  refine take_F (i := 10) (d := some 240) (v := ?_) (by kernel_rfl) (by kernel_rfl) rfl rfl (by kernel_rfl) (by kernel_rfl) (by kernel_rfl) (fun _ _ _ h => h) (Or.inl ⟨by rfl, ?_⟩) (by assumption) ?_
                  rotate_left
                  · (intro w hSw; (try dsimp only at hSw); go_simp; (try (with_reducible rfl)))
                  simp only [Act.put, List.setIfInBounds_toArray, List.set_cons_zero, List.set_cons_succ]
                  refine take_F (i := 11) (d := some 241) (v := ?_) (by kernel_rfl) (by kernel_rfl) rfl rfl (by kernel_rfl) (by kernel_rfl) (by kernel_rfl) (fun _ _ _ h => h) (Or.inl ⟨by rfl, ?_⟩) (by assumption) ?_
                  rotate_left
                  · (intro w hSw; (try dsimp only at hSw); go_simp; (try (with_reducible rfl)))
                  simp only [Act.put, List.setIfInBounds_toArray, List.set_cons_zero, List.set_cons_succ]
                  refine take_F (i := 12) (d := some 36) (v := ?_) (by kernel_rfl) (by kernel_rfl) rfl rfl (by kernel_rfl) (by kernel_rfl) (by kernel_rfl) (fun _ _ _ h => h) (Or.inl ⟨by rfl, ?_⟩) (by assumption) ?_
                  rotate_left
                  · (intro w hSw; (try dsimp only at hSw); go_simp; (try (with_reducible rfl)))
                  simp only [Act.put, List.setIfInBounds_toArray, List.set_cons_zero, List.set_cons_succ]
                  refine done_L (by kernel_rfl) ?_ _
                  refine NoPanic.normal ?_
                  (try go_wp2_with fail)
                  go_roundw
                  case rel => exact ⟨k + 1, d + 1, by omega, by go_num, by first | (rw [Hn.out]; done) | (rw [Hn.out, if_neg (by omega), z2]), rfl⟩
                  case measure => simp [intOf]; omega
              · obtain rfl : k = r + 1 := by omega
                rw [Hst.out]
                have Hbf := Lib.hid (below_drewN (HbD.out.trans (Hbr.out.mono HbD.out.size)) d)
                by_cases hr1 : r1 = 0
                · subst hr1
                  obtain ⟨t1, ⟨t2, t3⟩, ⟨t4, t5⟩, t6, t7⟩ := Hv3.out rfl
                  go_wp2_with fail
                  go_ret
                  exact ⟨rfl, Hbf.out⟩
                · have hr1' : (r1 != 0) = true := by simp [hr1]
                  go_wp2_with fail
                  go_ret
                  exact ⟨rfl, Hbf.out⟩
      · have hr3' : (r3 == 0) = false := by simp [hr3]
        go_upto_region 23 with (fail)
        go_wp2_with fail
        go_loopw [33] (fun s wr => ∃ (r : Nat) (A : Option Addr) (c : Nat), r ≤ N ∧ s = .slice A (N + 1 - r) c ∧ Rd wr wr.heap.size (.slice A (N + 1 - r) c) (N + 1 - r) 1 (tab (N + 1 - r) (Dn r (wpf N b))) ∧ Below wD.heap.size wD wr) (fun s _ => match s with | .slice _ n _ => n | _ => 0)
        case atStart => exact ⟨0, A7, c7, Nat.zero_le _, rfl, R7.out, Below.refl _ _⟩
        case round =>
          obtain ⟨r, A, c, hr, rfl, hrd, hbr⟩ := hrel
          have Hrd := Lib.hid hrd
          have Hbr := Lib.hid hbr
          clear hrd hbr
          by_cases hrN : r < N
          · obtain ⟨L, hL⟩ : ∃ L, N + 1 - r = L + 1 := ⟨N - r, by omega⟩
            rw [hL] at Hrd ⊢
            have HSm := Lib.hid (HS7.out r (by omega))
            rw [hL] at HSm
            obtain ⟨wo, rfl⟩ : ∃ x, x = wr := ⟨_, rfl⟩
            have hbo := Lib.hid ((Below.refl wo.heap.size wo).alloc (Nat.le_refl _) (.cells #[] 2))
            have hoo := Lib.hid (World.ownsRow_made (base := wo.heap.size) (e := 2) (size := 1) wo #[] 0 (Nat.le_refl _) (by simp [maxLen]) rfl)
            have hL1 : 1 ≤ L := by omega
            have hL9 : L ≤ 8 := by omega
            have HL1 := Lib.hid hL
            have HrN := Lib.hid hrN
            have hLi : (1 : Int) < (L : Int) + 1 := by omega
            clear hL hrN hr
            go_wp2_with fail
            go_loopw [34, 35] (fun s i wy => ∃ k m : Nat, m + 1 = k ∧ m ≤ L ∧ i = .int .i64 (k : Int) ∧ wy.ownsRow wo.heap.size 2 1 s m (tab m (D (Dn r (wpf N b)))) ∧ Below wo.heap.size wo wy) (fun _ i _ => L + 2 - (intOf i).toNat)
            case atStart => exact ⟨1, 0, rfl, Nat.zero_le _, rfl, hoo.out, hbo.out⟩
            case round =>
              obtain ⟨k, m, hkm, hk, rfl, hown, hbl⟩ := hrel
              obtain ⟨A5, c5, rfl⟩ := own_sl hown
              have Hown := Lib.hid hown
              have Hbl := Lib.hid hbl
              clear hown
              by_cases hlt : k < L + 1
              · obtain ⟨b1, o1, hA, _, hcc⟩ := rdF_all (Hrd.out.below hbl) (by omega)
                subst hA
                have q1 := hcc k hlt
                have q0 := hcc m (by omega)
                have s1 := HSm.out k hlt
                have s0 := HSm.out m (by omega)
                have HD := Lib.hid (show D (Dn r (wpf N b)) m = Dn r (wpf N b) k - Dn r (wpf N b) m by rw [← hkm]; rfl)
                have Hsc := Lib.hid (tab_succ m (D (Dn r (wpf N b))))
                clear hcc
                generalize Dn r (wpf N b) k = y1 at *
                generalize Dn r (wpf N b) m = y0 at *
                have hlt' : (k : Int) < (L : Int) + 1 := by omega
                have hm1 : IntKind.i64.wrap ((k : Int) - 1) = (m : Int) := by rw [IntWalk.i64_in _ (by omega)]; omega
                have hm2 : (m : Int) < (L : Int) + 1 := by omega
                have hkz : (0 : Int) ≤ (k : Int) := by omega
                have hmz : (0 : Int) ≤ (m : Int) := by omega
                have hd : IntKind.i64.wrap (y1 - y0) = y1 - y0 := IntWalk.i64_in _ (by omega)
                have Hkm := Lib.hid hkm
                have hm3 : m < 1000 := by omega
                have hm4 : m ≤ 7 := by omega
                have hmx : m + 1 ≤ maxLen := by simp [maxLen]; omega
                have hby : (m + 1) * 8 ≤ 140737488355328 := by omega
                clear hbl s1 s0 hkm hk
                go_wp2_with fail
                refine wp_region_noPanic ?_
                refine wp_region_L [13,12] (fun w' => w'.cell? ⟨b1, o1 + k, none⟩ = some (.int .i64 y1) ∧ w'.cell? ⟨b1, o1 + m, none⟩ = some (.int .i64 y0)) (by kernel_rfl) (⟨q1, q0⟩) (fun hHeld => ?_)
                refine take_F (i := 0) (d := some 210) (v := ?_) (by kernel_rfl) (by kernel_rfl) rfl rfl (by kernel_rfl) (by kernel_rfl) (by kernel_rfl) (fun _ _ _ h => h) (Or.inl ⟨by rfl, ?_⟩) (by assumption) ?_
                rotate_left
                · (intro w hSw; (try dsimp only at hSw); go_simp; (try (with_reducible rfl)))
                simp only [Act.put, List.setIfInBounds_toArray, List.set_cons_zero, List.set_cons_succ]
                refine take_F (i := 1) (d := some 211) (v := ?_) (by kernel_rfl) (by kernel_rfl) rfl rfl (by kernel_rfl) (by kernel_rfl) (by kernel_rfl) (fun _ _ _ h => h) (Or.inl ⟨by rfl, ?_⟩) (by assumption) ?_
                rotate_left
                · (intro w hSw; (try dsimp only at hSw); go_simp; (try (with_reducible rfl)))
                simp only [Act.put, List.setIfInBounds_toArray, List.set_cons_zero, List.set_cons_succ]
                refine take_F (i := 2) (d := some 212) (v := ?_) (by kernel_rfl) (by kernel_rfl) rfl rfl (by kernel_rfl) (by kernel_rfl) (by kernel_rfl) (fun _ _ _ h => h) (Or.inl ⟨by rfl, ?_⟩) (by assumption) ?_
                rotate_left
                · (intro w hSw; (try dsimp only at hSw); go_simp; (try (with_reducible rfl)))
                simp only [Act.put, List.setIfInBounds_toArray, List.set_cons_zero, List.set_cons_succ]
                refine take_F (i := 3) (d := some 213) (v := ?_) (by kernel_rfl) (by kernel_rfl) rfl rfl (by kernel_rfl) (by kernel_rfl) (by kernel_rfl) (fun _ _ _ h => h) (Or.inl ⟨by rfl, ?_⟩) (by assumption) ?_
                rotate_left
                · (intro w hSw; (try dsimp only at hSw); go_simp; (try (with_reducible rfl)))
                simp only [Act.put, List.setIfInBounds_toArray, List.set_cons_zero, List.set_cons_succ]
                refine take_L [11,10,4] (i := 4) (d := some 214) (v := ?_) (by kernel_rfl) (by kernel_rfl) (by kernel_rfl) (by kernel_rfl) rfl rfl (by kernel_rfl) (by kernel_rfl) (by kernel_rfl) (fun _ _ _ h => h) (Or.inl ⟨by rfl, ?_⟩) (by assumption) ?_
                rotate_left
                · (intro w hSw; (try dsimp only at hSw); go_simp; (try (with_reducible rfl)))
                simp only [Act.put, List.setIfInBounds_toArray, List.set_cons_zero, List.set_cons_succ]
                refine take_F (i := 5) (d := some 215) (v := ?_) (by kernel_rfl) (by kernel_rfl) rfl rfl (by kernel_rfl) (by kernel_rfl) (by kernel_rfl) (fun _ _ _ h => h) (Or.inl ⟨by rfl, ?_⟩) (by assumption) ?_
                rotate_left
                · (intro w hSw; (try dsimp only at hSw); go_simp; (try (with_reducible rfl)))
                simp only [Act.put, List.setIfInBounds_toArray, List.set_cons_zero, List.set_cons_succ]
                refine take_F (i := 6) (d := some 216) (v := ?_) (by kernel_rfl) (by kernel_rfl) rfl rfl (by kernel_rfl) (by kernel_rfl) (by kernel_rfl) (fun _ _ _ h => h) (Or.inl ⟨by rfl, ?_⟩) (by assumption) ?_
                rotate_left
                · (intro w hSw; (try dsimp only at hSw); go_simp; (try (with_reducible rfl)))
                simp only [Act.put, List.setIfInBounds_toArray, List.set_cons_zero, List.set_cons_succ]
                refine take_F (i := 7) (d := some 217) (v := ?_) (by kernel_rfl) (by kernel_rfl) rfl rfl (by kernel_rfl) (by kernel_rfl) (by kernel_rfl) (fun _ _ _ h => h) (Or.inl ⟨by rfl, ?_⟩) (by assumption) ?_
                rotate_left
                · (intro w hSw; (try dsimp only at hSw); go_simp; (try (with_reducible rfl)))
                simp only [Act.put, List.setIfInBounds_toArray, List.set_cons_zero, List.set_cons_succ]
                refine take_F (i := 8) (d := some 218) (v := ?_) (by kernel_rfl) (by kernel_rfl) rfl rfl (by kernel_rfl) (by kernel_rfl) (by kernel_rfl) (fun _ _ _ h => h) (Or.inl ⟨by rfl, ?_⟩) (by assumption) ?_
                rotate_left
                · (intro w hSw; (try dsimp only at hSw); go_simp; (try (with_reducible rfl)))
                simp only [Act.put, List.setIfInBounds_toArray, List.set_cons_zero, List.set_cons_succ]
                refine take_L [11,10,9] (i := 9) (d := some 219) (v := ?_) (by kernel_rfl) (by kernel_rfl) (by kernel_rfl) (by kernel_rfl) rfl rfl (by kernel_rfl) (by kernel_rfl) (by kernel_rfl) (fun _ _ _ h => h) (Or.inl ⟨by rfl, ?_⟩) (by assumption) ?_
                rotate_left
                · (intro w hSw; (try dsimp only at hSw); go_simp; (try (with_reducible rfl)))
                simp only [Act.put, List.setIfInBounds_toArray, List.set_cons_zero, List.set_cons_succ]
                refine take_F (i := 10) (d := some 220) (v := ?_) (by kernel_rfl) (by kernel_rfl) rfl rfl (by kernel_rfl) (by kernel_rfl) (by kernel_rfl) (fun _ _ _ h => h) (Or.inl ⟨by rfl, ?_⟩) (by assumption) ?_
                rotate_left
                · (intro w hSw; (try dsimp only at hSw); go_simp; (try (with_reducible rfl)))
                simp only [Act.put, List.setIfInBounds_toArray, List.set_cons_zero, List.set_cons_succ]
                refine call_L (i := 11) (d := (some 221)) rfl rfl (by kernel_rfl) (fun Kq hKq => ?_)
                go_simp
                refine hKq.out _ _ (⟨cell_alloc (w := wr.drew) q1 _, cell_alloc (w := wr.drew) q0 _⟩) (fun hHeld => ?_)
                clear hKq Kq
                (try simp only [Act.put, List.setIfInBounds_toArray, List.set_cons_zero, List.set_cons_succ])
                refine late_L (i := 12) (d := (some 222)) (by kernel_rfl) rfl rfl (by kernel_rfl) (fun Kq hKq => ?_)
                refine step_apd 24 2 _ 1 8 Try.underlying24 infoD rfl (by omega) _ _ (by rfl) (by rfl) wo.heap.size _ m _ (by rfl) Hown.out #[.int .i64 (y1 - y0)] 1 1 (by rfl) (by rfl) (by simp [Value.oneCell']) hmx hby Hbl.out.size ?_; intro v8 w8 hown8 hg8
                have Hb8 := Lib.hid (below_apd Hbl.out Hown.out hg8 (Nat.le_refl _) Hbl.out.size)
                obtain ⟨A8, c8, rfl⟩ := own_sl hown8
                have Hown8 := Lib.hid hown8
                clear hown8 hg8
                refine hKq.out _ _ ?_
                clear hKq Kq
                simp only [Act.put, List.setIfInBounds_toArray]
                refine late_L (i := 13) (d := (some 34)) (by kernel_rfl) rfl rfl (by kernel_rfl) (fun Kq hKq => ?_)
                go_simp
                refine hKq.out _ _ ?_
                clear hKq Kq
                refine done_L (by kernel_rfl) ?_ _
                refine NoPanic.normal ?_
                (try go_wp2_with fail)
                go_roundw
                case rel => exact ⟨k + 1, m + 1, by rw [Hkm.out], by have := Hkm.out; omega, by go_num, by rw [Hsc.out, HD.out]; exact Hown8.out, Hb8.out⟩
                case measure => simp [intOf]; omega
              · have hmL : m = L := by omega
                have hlt' : (L : Int) + 1 ≤ (k : Int) := by omega
                subst hmL
                go_wp2_with fail
                go_roundw
                case rel =>
                  have hL := HL1.out
                  have hrN := HrN.out
                  have e : N + 1 - (r + 1) = m := by omega
                  refine ⟨r + 1, A5, c5, by omega, by rw [e], ?_, Hbr.out.trans (Hbl.out.mono Hbr.out.size)⟩
                  rw [e]
                  exact Rd.of_own Hown.out
                case measure => simp
          · obtain rfl : r = N := by omega
            have e1 : r + 1 - r = 1 := by omega
            rw [e1] at Hrd ⊢
            obtain ⟨b1, o1, hA, _, hcc⟩ := rdF_all Hrd.out (by omega)
            subst hA
            have q0 := hcc 0 (by omega)
            rw [Htop.out, Nat.add_zero] at q0
            have R9w := Lib.hid (R9.out.below Hbr.out)
            obtain ⟨wo, rfl⟩ : ∃ x, x = wr := ⟨_, rfl⟩
            clear hcc e1 hrN
            go_wp2_with fail
            go_loopw [36, 37] (fun s i wy => ∃ k d : Nat, k ≤ r + 1 ∧ i = .int .i64 (k : Int) ∧ s = .int .i64 (sps r b k) ∧ wy = wo.drewN d) (fun _ i _ => r + 1 - (intOf i).toNat)
            case atStart => exact ⟨0, 0, Nat.zero_le _, rfl, rfl, rfl⟩
            case round =>
              obtain ⟨k, d, hk, rfl, rfl, rfl⟩ := hrel
              by_cases hlt : k < r + 1
              · obtain ⟨b2, o2, hA, _, hcc⟩ := rdF_all (R9w.out.drewN d) (by omega)
                subst hA
                have x0 := hcc k hlt
                have xb := Hfb.out k (by omega)
                have sb := Hsb.out k (by omega)
                have Hn := Lib.hid (show sps r b (k + 1) = sps r b k + max (spf r b k) (-(spf r b k)) from rfl)
                generalize spf r b k = z at *
                generalize sps r b k = s at *
                have hlt' : (k : Int) < (r : Int) + 1 := by omega
                have hkz : (0 : Int) ≤ (k : Int) := by omega
                clear hcc
                have z1 : IntKind.i64.wrap (-z) = -z := IntWalk.i64_in _ (by omega)
                by_cases hx : z < -z
                · have hmz : max z (-z) = -z := by omega
                  rw [hmz] at Hn
                  have z2 : IntKind.i64.wrap (s + -z) = s + -z := IntWalk.i64_in _ (by omega)
                  clear hmz
                  go_wp2_with fail
                  refine wp_region_noPanic ?_
                  refine wp_region_L [] (fun w' => w'.cell? ⟨b2, o2 + k, none⟩ = some (.int .i64 z)) (by kernel_rfl) (x0) (fun hHeld => ?_)
                  refine take_F (i := 0) (d := some 230) (v := ?_) (by kernel_rfl) (by kernel_rfl) rfl rfl (by kernel_rfl) (by kernel_rfl) (by kernel_rfl) (fun _ _ _ h => h) (Or.inl ⟨by rfl, ?_⟩) (by assumption) ?_
                  rotate_left
                  · (intro w hSw; (try dsimp only at hSw); go_simp; (try (with_reducible rfl)))
                  simp only [Act.put, List.setIfInBounds_toArray, List.set_cons_zero, List.set_cons_succ]
                  refine take_F (i := 1) (d := some 231) (v := ?_) (by kernel_rfl) (by kernel_rfl) rfl rfl (by kernel_rfl) (by kernel_rfl) (by kernel_rfl) (fun _ _ _ h => h) (Or.inl ⟨by rfl, ?_⟩) (by assumption) ?_
                  rotate_left
                  · (intro w hSw; (try dsimp only at hSw); go_simp; (try (with_reducible rfl)))
                  simp only [Act.put, List.setIfInBounds_toArray, List.set_cons_zero, List.set_cons_succ]
                  refine take_F (i := 2) (d := some 232) (v := ?_) (by kernel_rfl) (by kernel_rfl) rfl rfl (by kernel_rfl) (by kernel_rfl) (by kernel_rfl) (fun _ _ _ h => h) (Or.inl ⟨by rfl, ?_⟩) (by assumption) ?_
                  rotate_left
                  · (intro w hSw; (try dsimp only at hSw); go_simp; (try (with_reducible rfl)))
                  simp only [Act.put, List.setIfInBounds_toArray, List.set_cons_zero, List.set_cons_succ]
                  refine take_F (i := 3) (d := some 233) (v := ?_) (by kernel_rfl) (by kernel_rfl) rfl rfl (by kernel_rfl) (by kernel_rfl) (by kernel_rfl) (fun _ _ _ h => h) (Or.inl ⟨by rfl, ?_⟩) (by assumption) ?_
                  rotate_left
                  · (intro w hSw; (try dsimp only at hSw); go_simp; (try (with_reducible rfl)))
                  simp only [Act.put, List.setIfInBounds_toArray, List.set_cons_zero, List.set_cons_succ]
                  refine take_L [4] (i := 4) (d := some 234) (v := ?_) (by kernel_rfl) (by kernel_rfl) (by kernel_rfl) (by kernel_rfl) rfl rfl (by kernel_rfl) (by kernel_rfl) (by kernel_rfl) (fun _ _ _ h => h) (Or.inl ⟨by rfl, ?_⟩) (by assumption) ?_
                  rotate_left
                  · (intro w hSw; (try dsimp only at hSw); go_simp; (try (with_reducible rfl)))
                  simp only [Act.put, List.setIfInBounds_toArray, List.set_cons_zero, List.set_cons_succ]
                  refine take_F (i := 5) (d := some 235) (v := ?_) (by kernel_rfl) (by kernel_rfl) rfl rfl (by kernel_rfl) (by kernel_rfl) (by kernel_rfl) (fun _ _ _ h => h) (Or.inl ⟨by rfl, ?_⟩) (by assumption) ?_
                  rotate_left
                  · (intro w hSw; (try dsimp only at hSw); go_simp; (try (with_reducible rfl)))
                  simp only [Act.put, List.setIfInBounds_toArray, List.set_cons_zero, List.set_cons_succ]
                  refine take_F (i := 6) (d := some 236) (v := ?_) (by kernel_rfl) (by kernel_rfl) rfl rfl (by kernel_rfl) (by kernel_rfl) (by kernel_rfl) (fun _ _ _ h => h) (Or.inl ⟨by rfl, ?_⟩) (by assumption) ?_
                  rotate_left
                  · (intro w hSw; (try dsimp only at hSw); go_simp; (try (with_reducible rfl)))
                  simp only [Act.put, List.setIfInBounds_toArray, List.set_cons_zero, List.set_cons_succ]
                  refine take_F (i := 7) (d := some 237) (v := ?_) (by kernel_rfl) (by kernel_rfl) rfl rfl (by kernel_rfl) (by kernel_rfl) (by kernel_rfl) (fun _ _ _ h => h) (Or.inl ⟨by rfl, ?_⟩) (by assumption) ?_
                  rotate_left
                  · (intro w hSw; (try dsimp only at hSw); go_simp; (try (with_reducible rfl)))
                  simp only [Act.put, List.setIfInBounds_toArray, List.set_cons_zero, List.set_cons_succ]
                  refine take_L [8] (i := 8) (d := some 238) (v := ?_) (by kernel_rfl) (by kernel_rfl) (by kernel_rfl) (by kernel_rfl) rfl rfl (by kernel_rfl) (by kernel_rfl) (by kernel_rfl) (fun _ _ _ h => h) (Or.inl ⟨by rfl, ?_⟩) (by assumption) ?_
                  rotate_left
                  · (intro w hSw; (try dsimp only at hSw); go_simp; (try (with_reducible rfl)))
                  simp only [Act.put, List.setIfInBounds_toArray, List.set_cons_zero, List.set_cons_succ]
                  refine take_F (i := 9) (d := some 239) (v := ?_) (by kernel_rfl) (by kernel_rfl) rfl rfl (by kernel_rfl) (by kernel_rfl) (by kernel_rfl) (fun _ _ _ h => h) (Or.inl ⟨by rfl, ?_⟩) (by assumption) ?_
                  rotate_left
                  · (intro w hSw; (try dsimp only at hSw); go_simp; (try (with_reducible rfl)))
                  simp only [Act.put, List.setIfInBounds_toArray, List.set_cons_zero, List.set_cons_succ]
                  refine take_F (i := 10) (d := some 240) (v := ?_) (by kernel_rfl) (by kernel_rfl) rfl rfl (by kernel_rfl) (by kernel_rfl) (by kernel_rfl) (fun _ _ _ h => h) (Or.inl ⟨by rfl, ?_⟩) (by assumption) ?_
                  rotate_left
                  · (intro w hSw; (try dsimp only at hSw); go_simp; (try (with_reducible rfl)))
                  simp only [Act.put, List.setIfInBounds_toArray, List.set_cons_zero, List.set_cons_succ]
                  refine take_F (i := 11) (d := some 241) (v := ?_) (by kernel_rfl) (by kernel_rfl) rfl rfl (by kernel_rfl) (by kernel_rfl) (by kernel_rfl) (fun _ _ _ h => h) (Or.inl ⟨by rfl, ?_⟩) (by assumption) ?_
                  rotate_left
                  · (intro w hSw; (try dsimp only at hSw); go_simp; (try (with_reducible rfl)))
                  simp only [Act.put, List.setIfInBounds_toArray, List.set_cons_zero, List.set_cons_succ]
                  refine take_F (i := 12) (d := some 36) (v := ?_) (by kernel_rfl) (by kernel_rfl) rfl rfl (by kernel_rfl) (by kernel_rfl) (by kernel_rfl) (fun _ _ _ h => h) (Or.inl ⟨by rfl, ?_⟩) (by assumption) ?_
                  rotate_left
                  · (intro w hSw; (try dsimp only at hSw); go_simp; (try (with_reducible rfl)))
                  simp only [Act.put, List.setIfInBounds_toArray, List.set_cons_zero, List.set_cons_succ]
                  refine done_L (by kernel_rfl) ?_ _
                  refine NoPanic.normal ?_
                  (try go_wp2_with fail)
                  go_roundw
                  case rel => exact ⟨k + 1, d + 1, by omega, by go_num, by first | (rw [Hn.out]; done) | (rw [Hn.out, if_neg (by omega), z2]), rfl⟩
                  case measure => simp [intOf]; omega
                · have hmz : max z (-z) = z := by omega
                  rw [hmz] at Hn
                  have z2 : IntKind.i64.wrap (s + z) = s + z := IntWalk.i64_in _ (by omega)
                  clear hmz
                  go_wp2_with fail
                  refine wp_region_noPanic ?_
                  refine wp_region_L [] (fun w' => w'.cell? ⟨b2, o2 + k, none⟩ = some (.int .i64 z)) (by kernel_rfl) (x0) (fun hHeld => ?_)
                  refine take_F (i := 0) (d := some 230) (v := ?_) (by kernel_rfl) (by kernel_rfl) rfl rfl (by kernel_rfl) (by kernel_rfl) (by kernel_rfl) (fun _ _ _ h => h) (Or.inl ⟨by rfl, ?_⟩) (by assumption) ?_
                  rotate_left
                  · (intro w hSw; (try dsimp only at hSw); go_simp; (try (with_reducible rfl)))
                  simp only [Act.put, List.setIfInBounds_toArray, List.set_cons_zero, List.set_cons_succ]
                  refine take_F (i := 1) (d := some 231) (v := ?_) (by kernel_rfl) (by kernel_rfl) rfl rfl (by kernel_rfl) (by kernel_rfl) (by kernel_rfl) (fun _ _ _ h => h) (Or.inl ⟨by rfl, ?_⟩) (by assumption) ?_
                  rotate_left
                  · (intro w hSw; (try dsimp only at hSw); go_simp; (try (with_reducible rfl)))
                  simp only [Act.put, List.setIfInBounds_toArray, List.set_cons_zero, List.set_cons_succ]
                  refine take_F (i := 2) (d := some 232) (v := ?_) (by kernel_rfl) (by kernel_rfl) rfl rfl (by kernel_rfl) (by kernel_rfl) (by kernel_rfl) (fun _ _ _ h => h) (Or.inl ⟨by rfl, ?_⟩) (by assumption) ?_
                  rotate_left
                  · (intro w hSw; (try dsimp only at hSw); go_simp; (try (with_reducible rfl)))
                  simp only [Act.put, List.setIfInBounds_toArray, List.set_cons_zero, List.set_cons_succ]
                  refine take_F (i := 3) (d := some 233) (v := ?_) (by kernel_rfl) (by kernel_rfl) rfl rfl (by kernel_rfl) (by kernel_rfl) (by kernel_rfl) (fun _ _ _ h => h) (Or.inl ⟨by rfl, ?_⟩) (by assumption) ?_
                  rotate_left
                  · (intro w hSw; (try dsimp only at hSw); go_simp; (try (with_reducible rfl)))
                  simp only [Act.put, List.setIfInBounds_toArray, List.set_cons_zero, List.set_cons_succ]
                  refine take_L [4] (i := 4) (d := some 234) (v := ?_) (by kernel_rfl) (by kernel_rfl) (by kernel_rfl) (by kernel_rfl) rfl rfl (by kernel_rfl) (by kernel_rfl) (by kernel_rfl) (fun _ _ _ h => h) (Or.inl ⟨by rfl, ?_⟩) (by assumption) ?_
                  rotate_left
                  · (intro w hSw; (try dsimp only at hSw); go_simp; (try (with_reducible rfl)))
                  simp only [Act.put, List.setIfInBounds_toArray, List.set_cons_zero, List.set_cons_succ]
                  refine take_F (i := 5) (d := some 235) (v := ?_) (by kernel_rfl) (by kernel_rfl) rfl rfl (by kernel_rfl) (by kernel_rfl) (by kernel_rfl) (fun _ _ _ h => h) (Or.inl ⟨by rfl, ?_⟩) (by assumption) ?_
                  rotate_left
                  · (intro w hSw; (try dsimp only at hSw); go_simp; (try (with_reducible rfl)))
                  simp only [Act.put, List.setIfInBounds_toArray, List.set_cons_zero, List.set_cons_succ]
                  refine take_F (i := 6) (d := some 236) (v := ?_) (by kernel_rfl) (by kernel_rfl) rfl rfl (by kernel_rfl) (by kernel_rfl) (by kernel_rfl) (fun _ _ _ h => h) (Or.inl ⟨by rfl, ?_⟩) (by assumption) ?_
                  rotate_left
                  · (intro w hSw; (try dsimp only at hSw); go_simp; (try (with_reducible rfl)))
                  simp only [Act.put, List.setIfInBounds_toArray, List.set_cons_zero, List.set_cons_succ]
                  refine take_F (i := 7) (d := some 237) (v := ?_) (by kernel_rfl) (by kernel_rfl) rfl rfl (by kernel_rfl) (by kernel_rfl) (by kernel_rfl) (fun _ _ _ h => h) (Or.inl ⟨by rfl, ?_⟩) (by assumption) ?_
                  rotate_left
                  · (intro w hSw; (try dsimp only at hSw); go_simp; (try (with_reducible rfl)))
                  simp only [Act.put, List.setIfInBounds_toArray, List.set_cons_zero, List.set_cons_succ]
                  refine take_L [8] (i := 8) (d := some 238) (v := ?_) (by kernel_rfl) (by kernel_rfl) (by kernel_rfl) (by kernel_rfl) rfl rfl (by kernel_rfl) (by kernel_rfl) (by kernel_rfl) (fun _ _ _ h => h) (Or.inl ⟨by rfl, ?_⟩) (by assumption) ?_
                  rotate_left
                  · (intro w hSw; (try dsimp only at hSw); go_simp; (try (with_reducible rfl)))
                  simp only [Act.put, List.setIfInBounds_toArray, List.set_cons_zero, List.set_cons_succ]
                  refine take_F (i := 9) (d := some 239) (v := ?_) (by kernel_rfl) (by kernel_rfl) rfl rfl (by kernel_rfl) (by kernel_rfl) (by kernel_rfl) (fun _ _ _ h => h) (Or.inl ⟨by rfl, ?_⟩) (by assumption) ?_
                  rotate_left
                  · (intro w hSw; (try dsimp only at hSw); go_simp; (try (with_reducible rfl)))
                  simp only [Act.put, List.setIfInBounds_toArray, List.set_cons_zero, List.set_cons_succ]
                  refine take_F (i := 10) (d := some 240) (v := ?_) (by kernel_rfl) (by kernel_rfl) rfl rfl (by kernel_rfl) (by kernel_rfl) (by kernel_rfl) (fun _ _ _ h => h) (Or.inl ⟨by rfl, ?_⟩) (by assumption) ?_
                  rotate_left
                  · (intro w hSw; (try dsimp only at hSw); go_simp; (try (with_reducible rfl)))
                  simp only [Act.put, List.setIfInBounds_toArray, List.set_cons_zero, List.set_cons_succ]
                  refine take_F (i := 11) (d := some 241) (v := ?_) (by kernel_rfl) (by kernel_rfl) rfl rfl (by kernel_rfl) (by kernel_rfl) (by kernel_rfl) (fun _ _ _ h => h) (Or.inl ⟨by rfl, ?_⟩) (by assumption) ?_
                  rotate_left
                  · (intro w hSw; (try dsimp only at hSw); go_simp; (try (with_reducible rfl)))
                  simp only [Act.put, List.setIfInBounds_toArray, List.set_cons_zero, List.set_cons_succ]
                  refine take_F (i := 12) (d := some 36) (v := ?_) (by kernel_rfl) (by kernel_rfl) rfl rfl (by kernel_rfl) (by kernel_rfl) (by kernel_rfl) (fun _ _ _ h => h) (Or.inl ⟨by rfl, ?_⟩) (by assumption) ?_
                  rotate_left
                  · (intro w hSw; (try dsimp only at hSw); go_simp; (try (with_reducible rfl)))
                  simp only [Act.put, List.setIfInBounds_toArray, List.set_cons_zero, List.set_cons_succ]
                  refine done_L (by kernel_rfl) ?_ _
                  refine NoPanic.normal ?_
                  (try go_wp2_with fail)
                  go_roundw
                  case rel => exact ⟨k + 1, d + 1, by omega, by go_num, by first | (rw [Hn.out]; done) | (rw [Hn.out, if_neg (by omega), z2]), rfl⟩
                  case measure => simp [intOf]; omega
              · obtain rfl : k = r + 1 := by omega
                rw [Hst.out]
                have Hbf := Lib.hid (below_drewN (HbD.out.trans (Hbr.out.mono HbD.out.size)) d)
                by_cases hr1 : r1 = 0
                · subst hr1
                  obtain ⟨t1, ⟨t2, t3⟩, ⟨t4, t5⟩, t6, t7⟩ := Hv3.out rfl
                  go_wp2_with fail
                  go_ret
                  exact ⟨rfl, Hbf.out⟩
                · have hr1' : (r1 != 0) = true := by simp [hr1]
                  go_wp2_with fail
                  go_ret
                  exact ⟨rfl, Hbf.out⟩
    · have hoc' : (oc a b == 0) = false := by simp [hoc]
      by_cases hr3 : r3 = 0
      · subst hr3
        obtain ⟨k1, k2, k3⟩ := Hw3.out rfl
        by_cases hr1 : r1 = 0
        · subst hr1
          obtain ⟨t1, ⟨t2, t3⟩, ⟨t4, t5⟩, t6, t7⟩ := Hv3.out rfl
          go_wp2_with fail
          go_ret
          exact ⟨rfl, HbD.out⟩
        · have hr1' : (r1 != 0) = true := by simp [hr1]
          go_wp2_with fail
          go_ret
          exact ⟨rfl, HbD.out⟩
      · have hr3' : (r3 == 0) = false := by simp [hr3]
        by_cases hr1 : r1 = 0
        · subst hr1
          obtain ⟨t1, ⟨t2, t3⟩, ⟨t4, t5⟩, t6, t7⟩ := Hv3.out rfl
          go_wp2_with fail
          go_ret
          exact ⟨rfl, HbD.out⟩
        · have hr1' : (r1 != 0) = true := by simp [hr1]
          go_wp2_with fail
          go_ret
          exact ⟨rfl, HbD.out⟩
end Go.Proofs.Ytdljlemgaefbpaa
