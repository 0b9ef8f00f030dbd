/- The law FnChains: the walk. -/
import Derived.Test.YtdljlemgaefbpaaCh9
namespace Go.Proofs.Ytdljlemgaefbpaa
open Go.RowKit Go.Joins
attribute [local go_sem ↓] Go.wp_at_zero Go.wp_at_succ

set_option maxRecDepth 100000 in
set_option maxHeartbeats 6400000 in
theorem walkFnChains {W : World} (v1 : Value) (bs : List UInt8) (h1 : Rd W W.heap.size v1 bs.length 1 (bs.map byV)) (_m1 : bs.length ≤ maxLen) (v2 : Value) (cs : List UInt8) (h2 : Rd W W.heap.size v2 cs.length 1 (cs.map byV)) (_m2 : cs.length ≤ maxLen) :
    Calls Try.prog 3 #[v1, v2] W fun e w' => e = .returned (.bool true) ∧ Below W.heap.size W w' := by
  have HL := Lib.hid (a2Long_any _ _ _ _ _ _ _ _ W h1 h2)
  have HA := Lib.hid (A2Chain_any W.heap.size v1 bs W h1 (Nat.le_refl _))
  have HBt := Lib.hid (fun n k wx hx hk => a2At_any W.heap.size v2 cs n k wx hx hk)
  have H2 := Lib.hid h2
  unfold RetA2C at HA
  have hb0 := Lib.hid (Below.refl W.heap.size W)
  obtain ⟨A1, c1, rfl⟩ := rd_sl h1
  obtain ⟨A2, c2, rfl⟩ := rd_sl h2
  clear h1 h2
  by_cases hlong : (decide (3000 < bs.length) || decide (3000 < cs.length)) = true
  · rw [hlong] at HL
    go_enter Try.func3, Try.ntmps3
    go_wp2_with fail
    refine (HL.out).mono ?_; rintro e w1 ⟨rfl, rfl⟩
    go_wp2_with fail
    go_ret
    exact ⟨rfl, hb0.out⟩
  · have hlong' : (decide (3000 < bs.length) || decide (3000 < cs.length)) = false := by simpa using hlong
    rw [hlong'] at HL
    clear hlong hlong'
    go_enter Try.func3, Try.ntmps3
    go_wp2_with fail
    refine (HL.out).mono ?_; rintro e w1 ⟨rfl, rfl⟩
    go_wp2_with fail
    refine (HA.out).mono ?_; rintro e w1 ⟨v3, v4, n, p, q, rfl, hc, hS, ho1, ho2, hb1⟩
    have hn1 := hc.1
    have hn10 := hc.2.1
    obtain ⟨gp, cp, rfl, _, _⟩ := own_posC ho1 (by omega)
    obtain ⟨gq, cq, rfl, _, _⟩ := own_posC ho2 (by omega)
    have Hc := Lib.hid hc
    have HC5 := Lib.hid (ChIn.new (RdC.of_own ho1 ho2))
    have Hb1 := Lib.hid (hb1.alloc hb1.size (.cells #[.slice (some ⟨gp, 0, none⟩) n cp, .slice (some ⟨gq, 0, none⟩) (n + 1) cq] 26))
    have HS := Lib.hid hS
    clear ho1 ho2 hb1 HA hc hS
    go_wp2_with fail
    generalize hg5 : w1.heap.size = g5 at *
    generalize w1.alloc (.cells #[.slice (some ⟨gp, 0, none⟩) n cp, .slice (some ⟨gq, 0, none⟩) (n + 1) cq] 26) = w2 at *
    clear hg5
    refine (HBt.out 60 0 w2 (H2.out.below Hb1.out) (by omega)).mono ?_; rintro e w1 ⟨⟨x, rfl, hx0, hx1, _⟩, rfl⟩
    have hx60 := hx1 (by omega)
    obtain ⟨tz, htz⟩ : ∃ tz, x - 30 = tz := ⟨_, rfl⟩
    have ht1 : -30 ≤ tz ∧ tz ≤ 30 := by omega
    have htw : IntKind.i64.wrap (x - 30) = tz := by rw [IntWalk.i64_in _ (by omega)]; exact htz
    clear hx1
    obtain ⟨e0, e1, hl5, r5⟩ := HC5.out
    have HM := Lib.hid (MoveChain_any w2.heap.size _ _ n p q tz w2 r5 (Nat.le_refl _) Hc.out (by omega))
    unfold RetCh at HM
    clear r5
    go_wp2_with fail
    generalize x - 30 = tz' at *
    subst htz
    refine (HM.out).mono ?_; rintro e w3 ⟨hp, dp, hq, dq, rfl, ho3, ho4, hb3⟩
    have HC7 := Lib.hid (ChIn.new (RdC.of_own ho3 ho4))
    have hal := Lib.hid ((Below.refl w3.heap.size w3).alloc (Nat.le_refl _) (.cells #[.slice (some ⟨hp, 0, none⟩) n dp, .slice (some ⟨hq, 0, none⟩) (n + 1) dq] 26))
    have HC5 := Lib.hid ((HC5.out.below hb3).below hal.out)
    have Hb3 := Lib.hid ((Hb1.out.trans (hb3.mono Hb1.out.size)).trans (hal.out.mono (Nat.le_trans Hb1.out.size hb3.size)))
    clear ho3 ho4 hb3 HM Hb1 hal e0 e1 hl5
    go_upto_region 6 with (fail)
    generalize hg7 : w3.heap.size = g7 at *
    generalize w3.alloc (.cells #[.slice (some ⟨hp, 0, none⟩) n dp, .slice (some ⟨hq, 0, none⟩) (n + 1) dq] 26) = w4 at *
    clear hg7
    have Hmt := Lib.hid (mv_chn Hc.out (show -2000 ≤ tz' ∧ tz' ≤ 2000 by omega))
    obtain ⟨e0, e1, hl5, r5⟩ := HC5.out
    have HT := Lib.hid (TotalPlay_any w4.heap.size _ _ n p q w4 r5 (Nat.le_refl _) Hc.out)
    clear r5 hl5
    go_wp2_with fail
    refine (HT.out).mono ?_; rintro e w5 ⟨rfl, hb5⟩
    have HC5 := Lib.hid (HC5.out.below hb5)
    have HC7 := Lib.hid (HC7.out.below hb5)
    have Hb5 := Lib.hid (Hb3.out.trans (hb5.mono Hb3.out.size))
    clear hb5 HT Hb3 e0 e1
    obtain ⟨f0, f1, _, r7⟩ := HC7.out
    have HV := Lib.hid (ValidChainS_any w5.heap.size _ _ n p (mv p q tz') w5 r7 (Nat.le_refl _) Hmt.out)
    clear r7
    go_wp2_with fail
    refine (HV.out).mono ?_; rintro e w6 ⟨rfl, hb6⟩
    have HC5 := Lib.hid (HC5.out.below hb6)
    have HC7 := Lib.hid (HC7.out.below hb6)
    have Hb6 := Lib.hid (Hb5.out.trans (hb6.mono Hb5.out.size))
    clear hb6 HV Hb5 f0 f1
    obtain ⟨e0, e1, _, r5⟩ := HC5.out
    obtain ⟨f0, f1, _, r7⟩ := HC7.out
    have HV := Lib.hid (a2Same_b _ _ _ _ n p p w6 r7.1 r5.1 (by omega) (fun _ _ => rfl))
    have f2 := HC7.out.at 0 (by omega)
    rw [show mv p q tz' 0 = tz' from rfl] at f2
    clear r5 r7
    go_wp2_with fail
    refine (HV.out).mono ?_; rintro e w7 ⟨rfl, k7, hk7⟩
    have hb7 : Below w6.heap.size w6 w7 := by rw [hk7]; exact below_drewN (Below.refl _ _) k7
    have HC5 := Lib.hid (HC5.out.below hb7)
    have HC7 := Lib.hid (HC7.out.below hb7)
    have Hb7 := Lib.hid (Hb6.out.trans (hb7.mono Hb6.out.size))
    clear hb7 HV Hb6 f0 f1 f2 e0 e1 hk7
    obtain ⟨e0, e1, hl5, r5⟩ := HC5.out
    obtain ⟨f0, f1, hl7, _⟩ := HC7.out
    have f2 := HC7.out.at 0 (by omega)
    rw [show mv p q tz' 0 = tz' from rfl] at f2
    have e2 := HC5.out.at 0 (by omega)
    have hq0 := HS.out 0 (by omega)
    have HM := Lib.hid (fun wx hb => MoveChain_any w7.heap.size _ _ n p q (q 0) wx (r5.below hb) hb.size Hc.out (by omega))
    unfold RetCh at HM
    have Hm0 := Lib.hid (fun k hk => mv_same Hc.out.2.2.1 (k := k) hk)
    obtain ⟨q0, hq0e⟩ : ∃ x, q 0 = x := ⟨_, rfl⟩
    rw [hq0e] at e2 hq0
    have Hq0 := Lib.hid hq0e
    have Hr5 := Lib.hid r5
    clear r5 hq0e
    go_upto_region 9 with (fail)
    go_cut [11, 12] (fun s11 s12 wx => ∃ g gp' cp' gq' cq' : Nat, s11 = .pointer (some ⟨g, 0, none⟩) ∧ s12 = .int .i64 0 ∧ ChIn wx g n p (mv p q (q 0)) gp' cp' gq' cq' ∧ Below w7.heap.size w7 wx)
    case first =>
      refine wp_region_noPanic ?_
      refine wp_region_L [11,10] (fun w' => w'.cell? ⟨g5, 0, none⟩ = some (.slice (some ⟨gp, 0, none⟩) n cp) ∧ w'.cell? ⟨g5, 1, none⟩ = some (.slice (some ⟨gq, 0, none⟩) (n + 1) cq) ∧ w'.cell? ⟨gq, 0, none⟩ = some (.int .i64 q0)) (by kernel_rfl) (⟨e0, e1, e2⟩) (fun hHeld => ?_)
      refine take_L [0] (i := 0) (d := some 68) (v := ?_) (by kernel_rfl) (by kernel_rfl) (by kernel_rfl) (by kernel_rfl) rfl rfl (by kernel_rfl) (by kernel_rfl) (by kernel_rfl) (fun _ _ _ h => h) (Or.inl ⟨by rfl, ?_⟩) (by assumption) ?_
      rotate_left
      · (intro w hSw; (try dsimp only at hSw); go_simp; (try (with_reducible rfl)))
      simp only [Act.put, List.setIfInBounds_toArray, List.set_cons_zero, List.set_cons_succ]
      refine take_F (i := 1) (d := some 69) (v := ?_) (by kernel_rfl) (by kernel_rfl) rfl rfl (by kernel_rfl) (by kernel_rfl) (by kernel_rfl) (fun _ _ _ h => h) (Or.inl ⟨by rfl, ?_⟩) (by assumption) ?_
      rotate_left
      · (intro w hSw; (try dsimp only at hSw); go_simp; (try (with_reducible rfl)))
      simp only [Act.put, List.setIfInBounds_toArray, List.set_cons_zero, List.set_cons_succ]
      refine take_L [2] (i := 2) (d := some 70) (v := ?_) (by kernel_rfl) (by kernel_rfl) (by kernel_rfl) (by kernel_rfl) rfl rfl (by kernel_rfl) (by kernel_rfl) (by kernel_rfl) (fun _ _ _ h => h) (Or.inl ⟨by rfl, ?_⟩) (by assumption) ?_
      rotate_left
      · (intro w hSw; (try dsimp only at hSw); go_simp; (try (with_reducible rfl)))
      simp only [Act.put, List.setIfInBounds_toArray, List.set_cons_zero, List.set_cons_succ]
      refine take_F (i := 3) (d := some 71) (v := ?_) (by kernel_rfl) (by kernel_rfl) rfl rfl (by kernel_rfl) (by kernel_rfl) (by kernel_rfl) (fun _ _ _ h => h) (Or.inl ⟨by rfl, ?_⟩) (by assumption) ?_
      rotate_left
      · (intro w hSw; (try dsimp only at hSw); go_simp; (try (with_reducible rfl)))
      simp only [Act.put, List.setIfInBounds_toArray, List.set_cons_zero, List.set_cons_succ]
      refine take_L [4] (i := 4) (d := some 72) (v := ?_) (by kernel_rfl) (by kernel_rfl) (by kernel_rfl) (by kernel_rfl) rfl rfl (by kernel_rfl) (by kernel_rfl) (by kernel_rfl) (fun _ _ _ h => h) (Or.inl ⟨by rfl, ?_⟩) (by assumption) ?_
      rotate_left
      · (intro w hSw; (try dsimp only at hSw); go_simp; (try (with_reducible rfl)))
      simp only [Act.put, List.setIfInBounds_toArray, List.set_cons_zero, List.set_cons_succ]
      refine both_L (i := 5) (j := 9) (di := (some 73)) (dj := (some 11)) rfl rfl rfl rfl (by kernel_rfl) (fun Kq hKq => ?_) (fun Kq hKq => ?_)
      · go_simp
        go_at_call 12
        rw [← Hq0.out]
        refine (HM.out _ (Below.refl w7.heap.size w7).drew).mono ?_; rintro e w8 ⟨ga, ca, gb, cb, rfl, ho3, ho4, hb8⟩
        have hb8 := below_undrew hb8
        have k0 := (hb8.cell (p := ⟨g5, 0, none⟩) hl5).trans e0
        have k1 := (hb8.cell (p := ⟨g5, 1, none⟩) hl5).trans e1
        have k2 := (hb8.cell (p := ⟨gq, 0, none⟩) (World.block_lt_of_cell? w7 _ e2)).trans e2
        have Hfin := Lib.hid (ChIn.new (RdC.of_own ho3 ho4))
        have Hfin2 := Lib.hid (hb8.alloc hb8.size (.cells #[.slice (some ⟨ga, 0, none⟩) n ca, .slice (some ⟨gb, 0, none⟩) (n + 1) cb] 26))
        clear ho3 ho4 hb8
        (try go_wp2_with fail)
        refine hKq.out _ _ (⟨k0, k1, k2⟩) (fun hHeld => ?_)
        clear hKq Kq
        (try simp only [Act.put, List.setIfInBounds_toArray, List.set_cons_zero, List.set_cons_succ])
        refine take_F (i := 6) (d := some 67) (v := ?_) (by kernel_rfl) (by kernel_rfl) rfl rfl (by kernel_rfl) (by kernel_rfl) (by kernel_rfl) (fun _ _ _ h => h) (Or.inl ⟨by rfl, ?_⟩) (by assumption) ?_
        rotate_left
        · (intro w hSw; (try dsimp only at hSw); go_simp; (try (with_reducible rfl)))
        simp only [Act.put, List.setIfInBounds_toArray, List.set_cons_zero, List.set_cons_succ]
        refine take_F (i := 7) (d := some 74) (v := ?_) (by kernel_rfl) (by kernel_rfl) rfl rfl (by kernel_rfl) (by kernel_rfl) (by kernel_rfl) (fun _ _ _ h => h) (Or.inl ⟨by rfl, ?_⟩) (by assumption) ?_
        rotate_left
        · (intro w hSw; (try dsimp only at hSw); go_simp; (try (with_reducible rfl)))
        simp only [Act.put, List.setIfInBounds_toArray, List.set_cons_zero, List.set_cons_succ]
        refine take_F (i := 8) (d := some 75) (v := ?_) (by kernel_rfl) (by kernel_rfl) rfl rfl (by kernel_rfl) (by kernel_rfl) (by kernel_rfl) (fun _ _ _ h => h) (Or.inl ⟨by rfl, ?_⟩) (by assumption) ?_
        rotate_left
        · (intro w hSw; (try dsimp only at hSw); go_simp; (try (with_reducible rfl)))
        simp only [Act.put, List.setIfInBounds_toArray, List.set_cons_zero, List.set_cons_succ]
        refine call_L (i := 9) (d := (some 11)) rfl rfl (by kernel_rfl) (fun Kq hKq => ?_)
        go_simp
        refine hKq.out _ _ (⟨cell_alloc k0 _, cell_alloc k1 _, cell_alloc k2 _⟩) (fun hHeld => ?_)
        clear hKq Kq
        (try simp only [Act.put, List.setIfInBounds_toArray, List.set_cons_zero, List.set_cons_succ])
        refine late_L (i := 10) (d := none) (by kernel_rfl) rfl rfl (by kernel_rfl) (fun Kq hKq => ?_)
        go_simp
        refine hKq.out _ _ ?_
        clear hKq Kq
        refine late_L (i := 11) (d := (some 12)) (by kernel_rfl) rfl rfl (by kernel_rfl) (fun Kq hKq => ?_)
        go_simp
        refine hKq.out _ _ ?_
        clear hKq Kq
        refine done_L (by kernel_rfl) ?_ _
        refine NoPanic.normal ?_
        (try go_wp2_with fail)
        go_meet
        exact ⟨_, _, _, _, _, rfl, rfl, Hfin.out, Hfin2.out⟩
      · go_simp
        have Hg := Lib.hid (heap_alloc_new w7.drew nilC)
        have hbA := (Below.refl w7.heap.size w7).drew.alloc (Nat.le_refl _) nilC
        have HMA := Lib.hid (HM.out _ hbA)
        have HbA := Lib.hid hbA
        clear hbA
        unfold nilC at HMA Hg HbA
        refine hKq.out _ _ (⟨cell_alloc e0 _, cell_alloc e1 _, cell_alloc e2 _⟩) (fun hHeld => ?_)
        clear hKq Kq
        (try simp only [Act.put, List.setIfInBounds_toArray, List.set_cons_zero, List.set_cons_succ])
        refine call_L (i := 5) (d := (some 73)) rfl rfl (by kernel_rfl) (fun Kq hKq => ?_)
        go_simp
        go_at_call 12
        rw [← Hq0.out]
        refine HMA.out.mono ?_; rintro e w8 ⟨ga, ca, gb, cb, rfl, ho3, ho4, hb8⟩
        have hG := (hb8.block w7.heap.size (by simp)).trans Hg.out
        have hbw := HbA.out.trans (hb8.mono (by simp))
        obtain ⟨n0, n1, n2, n3⟩ := blk2 hG
        have k0 := (hbw.cell (p := ⟨g5, 0, none⟩) hl5).trans e0
        have k1 := (hbw.cell (p := ⟨g5, 1, none⟩) hl5).trans e1
        have k2 := (hbw.cell (p := ⟨gq, 0, none⟩) (World.block_lt_of_cell? w7 _ e2)).trans e2
        rw [show (w7.drew.alloc (.cells #[.slice none 0 0, .slice none 0 0] 26)).heap.size = w7.heap.size + 1 by simp] at ho3 ho4
        have Hfin := Lib.hid (ChIn.fill hG ho3 ho4)
        have Hfin2 := Lib.hid ((hbw.setCell (p := ⟨w7.heap.size, 0, none⟩) (Nat.le_refl _) (.slice (some ⟨ga, 0, none⟩) n ca)).setCell (p := ⟨w7.heap.size, 1, none⟩) (Nat.le_refl _) (.slice (some ⟨gb, 0, none⟩) (n + 1) cb))
        clear ho3 ho4 hb8 hbw hG HMA HbA Hg
        (try go_wp2_with fail)
        refine hKq.out _ _ (⟨k0, k1, k2⟩) (fun hHeld => ?_)
        clear hKq Kq
        (try simp only [Act.put, List.setIfInBounds_toArray, List.set_cons_zero, List.set_cons_succ])
        refine take_F (i := 6) (d := some 67) (v := ?_) (by kernel_rfl) (by kernel_rfl) rfl rfl (by kernel_rfl) (by kernel_rfl) (by kernel_rfl) (fun _ _ _ h => h) (Or.inl ⟨by rfl, ?_⟩) (by assumption) ?_
        rotate_left
        · (intro w hSw; (try dsimp only at hSw); go_simp; (try (with_reducible rfl)))
        simp only [Act.put, List.setIfInBounds_toArray, List.set_cons_zero, List.set_cons_succ]
        refine take_F (i := 7) (d := some 74) (v := ?_) (by kernel_rfl) (by kernel_rfl) rfl rfl (by kernel_rfl) (by kernel_rfl) (by kernel_rfl) (fun _ _ _ h => h) (Or.inl ⟨by rfl, ?_⟩) (by assumption) ?_
        rotate_left
        · (intro w hSw; (try dsimp only at hSw); go_simp; (try (with_reducible rfl)))
        simp only [Act.put, List.setIfInBounds_toArray, List.set_cons_zero, List.set_cons_succ]
        refine take_F (i := 8) (d := some 75) (v := ?_) (by kernel_rfl) (by kernel_rfl) rfl rfl (by kernel_rfl) (by kernel_rfl) (by kernel_rfl) (fun _ _ _ h => h) (Or.inl ⟨by rfl, ?_⟩) (by assumption) ?_
        rotate_left
        · (intro w hSw; (try dsimp only at hSw); go_simp; (try (with_reducible rfl)))
        simp only [Act.put, List.setIfInBounds_toArray, List.set_cons_zero, List.set_cons_succ]
        refine late_L (i := 10) (d := none) (by kernel_rfl) rfl rfl (by kernel_rfl) (fun Kq hKq => ?_)
        go_simp
        refine hKq.out _ _ ?_
        clear hKq Kq
        refine late_L (i := 11) (d := (some 12)) (by kernel_rfl) rfl rfl (by kernel_rfl) (fun Kq hKq => ?_)
        go_simp
        refine hKq.out _ _ ?_
        clear hKq Kq
        refine done_L (by kernel_rfl) ?_ _
        refine NoPanic.normal ?_
        (try go_wp2_with fail)
        go_meet
        exact ⟨_, _, _, _, _, rfl, rfl, Hfin.out, Hfin2.out⟩
    case rest =>
      obtain ⟨gB, gp2, cp2, gq2, cq2, rfl, rfl, HC11, hbc⟩ := hcut
      have HC5 := Lib.hid (HC5.out.below hbc)
      have HC7 := Lib.hid (HC7.out.below hbc)
      have HC11 := Lib.hid HC11
      have Hbc := Lib.hid (Hb7.out.trans (hbc.mono Hb7.out.size))
      clear hbc e0 e1 e2 f0 f1 f2 HM Hr5 hl5 hl7
      obtain ⟨f0, f1, hl7, r7⟩ := HC7.out
      have HM := Lib.hid (MoveChain_any wc.heap.size _ _ n p (mv p q tz') tz' wc r7 (Nat.le_refl _) Hmt.out (by omega))
      unfold RetCh at HM
      clear r7
      go_wp2_with fail
      refine (HM.out).mono ?_; rintro e w8 ⟨ga, ca, gb, cb, rfl, ho3, ho4, hb8⟩
      have HC13 := Lib.hid (ChIn.new (RdC.of_own ho3 ho4))
      have hal := Lib.hid ((Below.refl w8.heap.size w8).alloc (Nat.le_refl _) (.cells #[.slice (some ⟨ga, 0, none⟩) n ca, .slice (some ⟨gb, 0, none⟩) (n + 1) cb] 26))
      have HC5 := Lib.hid ((HC5.out.below hb8).below hal.out)
      have HC7 := Lib.hid ((HC7.out.below hb8).below hal.out)
      have HC11 := Lib.hid ((HC11.out.below hb8).below hal.out)
      have Hb8 := Lib.hid ((Hbc.out.trans (hb8.mono Hbc.out.size)).trans (hal.out.mono (Nat.le_trans Hbc.out.size hb8.size)))
      clear ho3 ho4 hb8 HM Hbc hal f0 f1 hl7
      go_upto_region 11 with (fail)
      generalize hg13 : w8.heap.size = g13 at *
      generalize w8.alloc (.cells #[.slice (some ⟨ga, 0, none⟩) n ca, .slice (some ⟨gb, 0, none⟩) (n + 1) cb] 26) = w9 at *
      clear hg13
      obtain ⟨e0, e1, _, r5⟩ := HC5.out
      obtain ⟨i0, i1, _, r11⟩ := HC11.out
      have HSa := Lib.hid (SameChain_any _ _ _ _ n p (mv p q (q 0)) p q w9 r11 r5 hn10 (fun _ _ => rfl) (fun i hi => Hm0.out i (by omega)))
      clear r5 r11
      go_wp2_with fail
      refine (HSa.out).mono ?_; rintro e wa ⟨rfl, hba⟩
      have HC5 := Lib.hid (HC5.out.below hba)
      have HC7 := Lib.hid (HC7.out.below hba)
      have HC13 := Lib.hid (HC13.out.below hba)
      have Hba := Lib.hid (Hb8.out.trans (hba.mono Hb8.out.size))
      clear hba HSa Hb8 e0 e1 i0 i1 HC11
      obtain ⟨f0, f1, _, r7⟩ := HC7.out
      obtain ⟨i0, i1, _, r13⟩ := HC13.out
      have HSa := Lib.hid (SameChain_any _ _ _ _ n p (mv p (mv p q tz') tz') p (mv p q tz') wa r13 r7 hn10 (fun _ _ => rfl) (fun i hi => mv_again Hc.out.2.2.1 tz' i (by omega)))
      clear r7 r13
      go_wp2_with fail
      refine (HSa.out).mono ?_; rintro e wb ⟨rfl, hbb⟩
      have HC5 := Lib.hid (HC5.out.below hbb)
      have HC7 := Lib.hid (HC7.out.below hbb)
      have Hbb := Lib.hid (Hba.out.trans (hbb.mono Hba.out.size))
      clear hbb HSa Hba f0 f1 i0 i1 HC13
      go_wp2_with fail
      go_loopw [15] (fun i wr => ∃ k : Nat, k ≤ n + 1 ∧ i = .int .i64 (k : Int) ∧ Below wb.heap.size wb wr) (fun i _ => n + 1 - (intOf i).toNat)
      case atStart => exact ⟨0, Nat.zero_le _, rfl, Below.refl _ _⟩
      case round =>
        obtain ⟨k, hk, rfl, hbr⟩ := hrel
        have HC5r := Lib.hid (HC5.out.below hbr)
        have HC7r := Lib.hid (HC7.out.below hbr)
        obtain ⟨e0, e1, _, _⟩ := HC5r.out
        obtain ⟨f0, f1, _, _⟩ := HC7r.out
        have Hbr := Lib.hid hbr
        clear hbr
        by_cases hlt : k < n + 1
        · have hlt' : (k : Int) < (n : Int) + 1 := by omega
          have e2 := HC5r.out.at 0 (by omega)
          rw [Hq0.out] at e2
          have e3 := HC5r.out.at k (by omega)
          have f3 := HC7r.out.at k (by omega)
          have hnr := mv_near2 Hc.out.2.2.1 tz' k (by omega)
          have hsd := mv_sides (tz := tz') Hc.out k (by omega)
          have hyb := mv_near1 (tz := tz') Hc.out (by omega) k (by omega)
          have htt := tot_bd Hc.out n (Nat.le_refl _)
          have hqb := HS.out k (by omega)
          rw [Hq0.out] at hsd
          generalize mv p q tz' k = y at *
          generalize q k = z at *
          generalize tot p n = T at *
          obtain ⟨hn1a, hn1b⟩ := hnr
          obtain ⟨hs1, hs2⟩ := hsd
          obtain ⟨ht3, ht4⟩ := htt
          have hT2 : T ≤ 1000 := by omega
          by_cases c1 : q0 < tz'
          · have d1 : decide (q0 ≤ tz') = true := by simp; omega
            have d2 : decide (y < z) = false := by simp; omega
            have d3 : decide (tz' ≤ q0) = false := by simp; omega
            clear hs1 hs2
            go_wp2_with fail
            go_quiet (fail)
            go_wp2_with fail
            go_roundw
            case rel => exact ⟨k + 1, by omega, by go_num, below_drewN Hbr.out _⟩
            case measure => first | (simp [intOf]; done) | (simp [intOf]; omega)
          · by_cases c2 : tz' < q0
            · have d1 : decide (q0 ≤ tz') = false := by simp; omega
              have d3 : decide (tz' ≤ q0) = true := by simp; omega
              have d4 : decide (z < y) = false := by simp; omega
              clear hs1 hs2
              go_wp2_with fail
              go_quiet (fail)
              go_wp2_with fail
              go_roundw
              case rel => exact ⟨k + 1, by omega, by go_num, below_drewN Hbr.out _⟩
              case measure => first | (simp [intOf]; done) | (simp [intOf]; omega)
            · have d1 : decide (q0 ≤ tz') = true := by simp; omega
              have d2 : decide (y < z) = false := by simp; omega
              have d3 : decide (tz' ≤ q0) = true := by simp; omega
              have d4 : decide (z < y) = false := by simp; omega
              clear hs1 hs2
              go_wp2_with fail
              go_quiet (fail)
              go_wp2_with fail
              go_roundw
              case rel => exact ⟨k + 1, by omega, by go_num, below_drewN Hbr.out _⟩
              case measure => first | (simp [intOf]; done) | (simp [intOf]; omega)
        · have hge : (n : Int) + 1 ≤ (k : Int) := by omega
          have Hbw := Lib.hid (Hbb.out.trans (Hbr.out.mono Hbb.out.size))
          clear f0 f1 HC7r Hbr Hbb HC5 HC7 hk
          go_wp2_with fail
          refine (HBt.out 40 1 wr (H2.out.below Hbw.out) (by omega)).mono ?_; rintro e wd ⟨⟨x2, rfl, hx3, hx4, _⟩, rfl⟩
          have hx5 := hx4 (by omega)
          obtain ⟨hq1, hq2⟩ := HS.out 0 (by omega)
          have hg1 : -20 ≤ x2 - 20 ∧ x2 - 20 ≤ 20 := by omega
          obtain ⟨_, _, _, r5⟩ := HC5r.out
          have HN := Lib.hid (MoveNeeded_any wr.heap.size _ _ n p q (x2 - 20) wr r5 (Nat.le_refl _) Hc.out (by omega) (by omega))
          have hnd := need_in (n := n) (p := p) (q := q) (goal := x2 - 20) Hc.out hg1 (by omega)
          have Hgo := Lib.hid (mv_goal (n := n) (p := p) (q := q) Hc.out.2.2.1 (x2 - 20))
          clear hx4 r5 hq1 hq2
          go_wp2_with fail
          refine (HN.out).mono ?_; rintro e we ⟨rfl, hbe⟩
          have HC5 := Lib.hid (HC5r.out.below hbe)
          have Hbe := Lib.hid (Hbw.out.trans (hbe.mono Hbw.out.size))
          clear hbe HN Hbw e0 e1 HC5r
          generalize need p q n (x2 - 20) = nd at *
          generalize x2 - 20 = gl at *
          obtain ⟨e0, e1, _, r5⟩ := HC5.out
          have HM := Lib.hid (MoveChain_any we.heap.size _ _ n p q nd we r5 (Nat.le_refl _) Hc.out hnd)
          unfold RetCh at HM
          clear r5
          go_wp2_with fail
          refine (HM.out).mono ?_; rintro e wf ⟨gx, cx, gy, cy, rfl, ho5, ho6, hbf⟩
          have HC19 := Lib.hid (ChIn.new (RdC.of_own ho5 ho6))
          have hal := Lib.hid ((Below.refl wf.heap.size wf).alloc (Nat.le_refl _) (.cells #[.slice (some ⟨gx, 0, none⟩) n cx, .slice (some ⟨gy, 0, none⟩) (n + 1) cy] 26))
          have HC5 := Lib.hid ((HC5.out.below hbf).below hal.out)
          have Hbf := Lib.hid ((Hbe.out.trans (hbf.mono Hbe.out.size)).trans (hal.out.mono (Nat.le_trans Hbe.out.size hbf.size)))
          clear ho5 ho6 hbf HM Hbe hal e0 e1
          go_upto_region 25 with (fail)
          generalize hg19 : wf.heap.size = g19 at *
          generalize wf.alloc (.cells #[.slice (some ⟨gx, 0, none⟩) n cx, .slice (some ⟨gy, 0, none⟩) (n + 1) cy] 26) = wg at *
          clear hg19
          obtain ⟨e0, e1, _, _⟩ := HC5.out
          obtain ⟨f0, f1, _, _⟩ := HC19.out
          have f2 := HC19.out.at n (Nat.le_refl _)
          rw [Hgo.out] at f2
          go_wp2_with fail
          go_ret
          exact ⟨rfl, Hbf.out⟩
end Go.Proofs.Ytdljlemgaefbpaa
