/- Merged texts: Dm19. -/
import Derived.Test.YtdabcpmieiiapaaGLawDrums4
/- The law FnDrums: the walk. -/
namespace Go.Proofs.Ytdabcpmieiiapaa
open Go.RowKit Go.Joins
set_option maxRecDepth 100000 in
set_option maxHeartbeats 25600000 in
theorem walkFnDrums {W : World} (v : Value) (bs : List UInt8) (h : Rd W W.heap.size v bs.length 1 (bs.map byV)) (_hl : bs.length ≤ maxLen) :
    Calls Try.prog 3 #[v] W fun e w' => e = .returned (.bool true) ∧ Below W.heap.size W w' := by
  have HB := Lib.hid (Below.refl W.heap.size W)
  have HC := Lib.hid h
  have HG := Lib.hid (f6big_D _ _ v _ W h)
  obtain ⟨_, A0, c0, rfl, _⟩ := h
  by_cases hbig : 4096 < bs.length
  · rw [decide_eq_true hbig] at HG
    clear hbig
    go_enter Try.func3, Try.ntmps3
    go_wp2_with fail
    refine HG.out.mono ?_; rintro e w1 ⟨rfl, rfl⟩
    go_wp2_with fail
    go_ret
    exact ⟨rfl, HB.out⟩
  rw [decide_eq_false hbig] at HG
  clear hbig
  go_enter Try.func3, Try.ntmps3
  go_wp2_with fail
  refine HG.out.mono ?_; rintro e w1 ⟨rfl, rfl⟩
  clear HG
  go_wp2_with fail
  refine (drawSW_any _ _ bs _ (HC.out.below HB.out) HB.out.size).mono ?_; rintro e wn ⟨⟨k3, b3, t3, f3⟩, x4, x5, x6, rfl, hb⟩
  have HB' := Lib.hid (HB.out.trans (hb.mono HB.out.size)); clear HB; have HB := HB'; clear HB'
  clear hb
  have HBI := Lib.hid (fun wx => StepsBtI_any ⟨k3, b3, t3, f3⟩ x4 x5 x6 wx)
  have HBS := Lib.hid (fun wx => StepsBtS_any ⟨k3, b3, t3, f3⟩ x4 x5 x6 wx)
  have HY1 := Lib.hid (fun wx => StepsByI_any ⟨k3, b3, t3, f3⟩ x4 x5 wx)
  have HY2 := Lib.hid (fun wx => StepsByI_any ⟨k3, b3, t3, f3⟩ x4 x6 wx)
  have HBT := Lib.hid (fun h => bt_law (d := ⟨k3, b3, t3, f3⟩) (g := x4) (a := x5) (b := x6) h)
  have HVI := Lib.hid (fun wx => ValidDm_any ⟨k3, b3, t3, f3⟩ wx)
  have HVS := Lib.hid (fun wx => ValidDS_any ⟨k3, b3, t3, f3⟩ wx)
  generalize btV ⟨k3, b3, t3, f3⟩ x4 x5 x6 = BV at *
  generalize btC ⟨k3, b3, t3, f3⟩ x4 x5 x6 = BC at *
  generalize sbV ⟨k3, b3, t3, f3⟩ x4 x5 = SV1 at *
  generalize sbC ⟨k3, b3, t3, f3⟩ x4 x5 = SC1 at *
  generalize sbV ⟨k3, b3, t3, f3⟩ x4 x6 = SV2 at *
  generalize sbC ⟨k3, b3, t3, f3⟩ x4 x6 = SC2 at *
  generalize okDm ⟨k3, b3, t3, f3⟩ = OK3 at *
  go_upto_region 4 with (fail)
  have hbw := (Below.refl wn.heap.size wn).alloc (Nat.le_refl _) (.cells #[.int .i64 k3, .int .i64 b3, .int .i64 t3, .int .i64 f3] 25)
  have HQ30 := Lib.hid (heap_alloc_new wn (.cells #[.int .i64 k3, .int .i64 b3, .int .i64 t3, .int .i64 f3] 25))
  have HB' := Lib.hid (HB.out.trans (hbw.mono HB.out.size)); clear HB; have HB := HB'; clear HB'
  have HQ3 := HQ30; clear HQ30
  clear hbw
  generalize hq3 : wn.heap.size = q3 at *
  generalize wn.alloc (.cells #[.int .i64 k3, .int .i64 b3, .int .i64 t3, .int .i64 f3] 25) = w5 at *
  clear hq3
  obtain ⟨p0, p1, p2, p3⟩ := four_at HQ3.out
  go_wp2_with fail
  refine (HBI.out _).mono ?_; rintro e wn ⟨rfl, hb⟩
  have HQ3' := Lib.hid (blkI HQ3.out hb); clear HQ3; have HQ3 := HQ3'; clear HQ3'
  have HB' := Lib.hid (HB.out.trans (hb.mono HB.out.size)); clear HB; have HB := HB'; clear HB'
  clear hb HBI
  clear p0 p1 p2 p3
  obtain ⟨p0, p1, p2, p3⟩ := four_at HQ3.out
  go_wp2_with fail
  refine (HBS.out _).mono ?_; rintro e wn ⟨rfl, hb⟩
  have HQ3' := Lib.hid (blkI HQ3.out hb); clear HQ3; have HQ3 := HQ3'; clear HQ3'
  have HB' := Lib.hid (HB.out.trans (hb.mono HB.out.size)); clear HB; have HB := HB'; clear HB'
  clear hb HBS
  clear p0 p1 p2 p3
  go_wp2_with fail
  refine (drawSB_any _ _ bs _ (HC.out.below HB.out) HB.out.size).mono ?_; rintro e wn ⟨⟨k11, b11, t11, f11⟩, x12, x13, rfl, hb⟩
  have HQ3' := Lib.hid (blkI HQ3.out hb); clear HQ3; have HQ3 := HQ3'; clear HQ3'
  have HB' := Lib.hid (HB.out.trans (hb.mono HB.out.size)); clear HB; have HB := HB'; clear HB'
  clear hb
  have HSI := Lib.hid (fun wx => StepsByI_any ⟨k11, b11, t11, f11⟩ x12 x13 wx)
  have HSS := Lib.hid (fun wx => StepsByS_any ⟨k11, b11, t11, f11⟩ x12 x13 wx)
  generalize sbV ⟨k11, b11, t11, f11⟩ x12 x13 = YV at *
  generalize sbC ⟨k11, b11, t11, f11⟩ x12 x13 = YC at *
  go_upto_region 7 with (fail)
  have hbw := (Below.refl wn.heap.size wn).alloc (Nat.le_refl _) (.cells #[.int .i64 k11, .int .i64 b11, .int .i64 t11, .int .i64 f11] 25)
  have HQ110 := Lib.hid (heap_alloc_new wn (.cells #[.int .i64 k11, .int .i64 b11, .int .i64 t11, .int .i64 f11] 25))
  have HQ3' := Lib.hid (blkI HQ3.out hbw); clear HQ3; have HQ3 := HQ3'; clear HQ3'
  have HB' := Lib.hid (HB.out.trans (hbw.mono HB.out.size)); clear HB; have HB := HB'; clear HB'
  have HQ11 := HQ110; clear HQ110
  clear hbw
  generalize hq11 : wn.heap.size = q11 at *
  generalize wn.alloc (.cells #[.int .i64 k11, .int .i64 b11, .int .i64 t11, .int .i64 f11] 25) = w5 at *
  clear hq11
  obtain ⟨p0, p1, p2, p3⟩ := four_at HQ11.out
  go_wp2_with fail
  refine (HSI.out _).mono ?_; rintro e wn ⟨rfl, hb⟩
  have HQ3' := Lib.hid (blkI HQ3.out hb); clear HQ3; have HQ3 := HQ3'; clear HQ3'
  have HQ11' := Lib.hid (blkI HQ11.out hb); clear HQ11; have HQ11 := HQ11'; clear HQ11'
  have HB' := Lib.hid (HB.out.trans (hb.mono HB.out.size)); clear HB; have HB := HB'; clear HB'
  clear hb HSI
  clear p0 p1 p2 p3
  obtain ⟨p0, p1, p2, p3⟩ := four_at HQ11.out
  go_wp2_with fail
  refine (HSS.out _).mono ?_; rintro e wn ⟨rfl, hb⟩
  have HQ3' := Lib.hid (blkI HQ3.out hb); clear HQ3; have HQ3 := HQ3'; clear HQ3'
  have HQ11' := Lib.hid (blkI HQ11.out hb); clear HQ11; have HQ11 := HQ11'; clear HQ11'
  have HB' := Lib.hid (HB.out.trans (hb.mono HB.out.size)); clear HB; have HB := HB'; clear HB'
  clear hb HSS
  clear p0 p1 p2 p3
  clear HQ11
  go_wp2_with fail
  refine (drawST_any _ _ bs _ (HC.out.below HB.out) HB.out.size).mono ?_; rintro e wn ⟨⟨k18, b18, t18, f18⟩, x19, rfl, hb⟩
  have HQ3' := Lib.hid (blkI HQ3.out hb); clear HQ3; have HQ3 := HQ3'; clear HQ3'
  have HB' := Lib.hid (HB.out.trans (hb.mono HB.out.size)); clear HB; have HB := HB'; clear HB'
  clear hb
  have HTI := Lib.hid (fun wx => StepTimesI_any ⟨k18, b18, t18, f18⟩ x19 wx)
  have HTS := Lib.hid (fun wx => StepTimesS_any ⟨k18, b18, t18, f18⟩ x19 wx)
  have HZ1 := Lib.hid (fun wx => StepsByI_any ⟨k18, b18, t18, f18⟩ x19 t18 wx)
  have HZ2 := Lib.hid (fun v wx h => DigitForI_any _ ⟨k18, b18, t18, f18⟩ v (nD ⟨k18, b18, t18, f18⟩ x19) (timeD ⟨k18, b18, t18, f18⟩ (nD ⟨k18, b18, t18, f18⟩ x19)) wx h (Nat.le_refl _))
  have HZL := Lib.hid (fun h => turn_law (d := ⟨k18, b18, t18, f18⟩) (g := x19) h)
  have HZB := Lib.hid (show codeD ⟨k18, b18, t18, f18⟩ x19 = 0 → (∀ j, j < nD ⟨k18, b18, t18, f18⟩ x19 → 1 ≤ timeD ⟨k18, b18, t18, f18⟩ (nD ⟨k18, b18, t18, f18⟩ x19) j ∧ timeD ⟨k18, b18, t18, f18⟩ (nD ⟨k18, b18, t18, f18⟩ x19) j ≤ t18) ∧ (∀ j, j + 1 < nD ⟨k18, b18, t18, f18⟩ x19 → timeD ⟨k18, b18, t18, f18⟩ (nD ⟨k18, b18, t18, f18⟩ x19) j < timeD ⟨k18, b18, t18, f18⟩ (nD ⟨k18, b18, t18, f18⟩ x19) (j + 1)) from fun h => ⟨fun j hj => timeD_bd (codeD_0 h).1 (by rw [nD_0 h]; exact (codeD_0 h).2.2.1) hj, fun j hj => timeD_up (codeD_0 h).1 (by rw [nD_0 h]; exact (codeD_0 h).2.2.1) hj⟩)
  have hN16 := nD_le ⟨k18, b18, t18, f18⟩ x19
  unfold RetTm at HTI HTS
  generalize timeD ⟨k18, b18, t18, f18⟩ (nD ⟨k18, b18, t18, f18⟩ x19) = TF at *
  generalize nD ⟨k18, b18, t18, f18⟩ x19 = N at *
  generalize codeD ⟨k18, b18, t18, f18⟩ x19 = C18 at *
  dsimp only at HZL HZB
  go_upto_region 10 with (fail)
  have hbw := (Below.refl wn.heap.size wn).alloc (Nat.le_refl _) (.cells #[.int .i64 k18, .int .i64 b18, .int .i64 t18, .int .i64 f18] 25)
  have HQ180 := Lib.hid (heap_alloc_new wn (.cells #[.int .i64 k18, .int .i64 b18, .int .i64 t18, .int .i64 f18] 25))
  have HQ3' := Lib.hid (blkI HQ3.out hbw); clear HQ3; have HQ3 := HQ3'; clear HQ3'
  have HB' := Lib.hid (HB.out.trans (hbw.mono HB.out.size)); clear HB; have HB := HB'; clear HB'
  have HQ18 := HQ180; clear HQ180
  clear hbw
  generalize hq18 : wn.heap.size = q18 at *
  generalize wn.alloc (.cells #[.int .i64 k18, .int .i64 b18, .int .i64 t18, .int .i64 f18] 25) = w5 at *
  clear hq18
  obtain ⟨p0, p1, p2, p3⟩ := four_at HQ18.out
  go_wp2_with fail
  refine (HTI.out _).mono ?_; rintro e wn ⟨v20, rfl, ho, hb⟩
  have R200 := Lib.hid (Rd.of_own ho)
  have HQ3' := Lib.hid (blkI HQ3.out hb); clear HQ3; have HQ3 := HQ3'; clear HQ3'
  have HQ18' := Lib.hid (blkI HQ18.out hb); clear HQ18; have HQ18 := HQ18'; clear HQ18'
  have HB' := Lib.hid (HB.out.trans (hb.mono HB.out.size)); clear HB; have HB := HB'; clear HB'
  have R20 := R200; clear R200
  obtain ⟨A20, c20, rfl⟩ := own_sl ho
  clear ho hb HTI
  clear p0 p1 p2 p3
  obtain ⟨p0, p1, p2, p3⟩ := four_at HQ18.out
  go_wp2_with fail
  refine (HTS.out _).mono ?_; rintro e wn ⟨v22, rfl, ho, hb⟩
  have R220 := Lib.hid (Rd.of_own ho)
  have R20' := Lib.hid (rdNI R20.out hb)
  clear R20; have R20 := R20'; clear R20'
  have HQ3' := Lib.hid (blkI HQ3.out hb); clear HQ3; have HQ3 := HQ3'; clear HQ3'
  have HQ18' := Lib.hid (blkI HQ18.out hb); clear HQ18; have HQ18 := HQ18'; clear HQ18'
  have HB' := Lib.hid (HB.out.trans (hb.mono HB.out.size)); clear HB; have HB := HB'; clear HB'
  have R22 := R220; clear R220
  obtain ⟨A22, c22, rfl⟩ := own_sl ho
  clear ho hb HTS
  clear p0 p1 p2 p3
  go_wp2_with fail
  refine (drawDF_any _ _ bs _ (HC.out.below HB.out) HB.out.size).mono ?_; rintro e wn ⟨⟨k24, b24, t24, f24⟩, v25, m25, F25, rfl, ho, hm25, hb⟩
  have R250 := Lib.hid (Rd.of_own ho)
  have R20' := Lib.hid (rdNI R20.out hb)
  have R22' := Lib.hid (rdNI R22.out hb)
  clear R20; have R20 := R20'; clear R20'
  clear R22; have R22 := R22'; clear R22'
  have HQ3' := Lib.hid (blkI HQ3.out hb); clear HQ3; have HQ3 := HQ3'; clear HQ3'
  have HQ18' := Lib.hid (blkI HQ18.out hb); clear HQ18; have HQ18 := HQ18'; clear HQ18'
  have HB' := Lib.hid (HB.out.trans (hb.mono HB.out.size)); clear HB; have HB := HB'; clear HB'
  have R25 := R250; clear R250
  obtain ⟨A25, c25, rfl⟩ := own_sl ho
  clear ho hb
  have HFI := Lib.hid (fun wx h => DigitForI_any _ ⟨k24, b24, t24, f24⟩ (.slice A25 m25 c25) m25 F25 wx h (Nat.le_refl _))
  have HFS := Lib.hid (fun wx h => DigitForS_any _ ⟨k24, b24, t24, f24⟩ (.slice A25 m25 c25) m25 F25 wx h (Nat.le_refl _) (by omega))
  generalize dfV ⟨k24, b24, t24, f24⟩ m25 F25 = FV at *
  generalize dfC ⟨k24, b24, t24, f24⟩ m25 F25 = FC at *
  go_upto_region 13 with (fail)
  have hbw := (Below.refl wn.heap.size wn).alloc (Nat.le_refl _) (.cells #[.int .i64 k24, .int .i64 b24, .int .i64 t24, .int .i64 f24] 25)
  have HQ240 := Lib.hid (heap_alloc_new wn (.cells #[.int .i64 k24, .int .i64 b24, .int .i64 t24, .int .i64 f24] 25))
  have R20' := Lib.hid (rdNI R20.out hbw)
  have R22' := Lib.hid (rdNI R22.out hbw)
  have R25' := Lib.hid (rdNI R25.out hbw)
  clear R20; have R20 := R20'; clear R20'
  clear R22; have R22 := R22'; clear R22'
  clear R25; have R25 := R25'; clear R25'
  have HQ3' := Lib.hid (blkI HQ3.out hbw); clear HQ3; have HQ3 := HQ3'; clear HQ3'
  have HQ18' := Lib.hid (blkI HQ18.out hbw); clear HQ18; have HQ18 := HQ18'; clear HQ18'
  have HB' := Lib.hid (HB.out.trans (hbw.mono HB.out.size)); clear HB; have HB := HB'; clear HB'
  have HQ24 := HQ240; clear HQ240
  clear hbw
  generalize hq24 : wn.heap.size = q24 at *
  generalize wn.alloc (.cells #[.int .i64 k24, .int .i64 b24, .int .i64 t24, .int .i64 f24] 25) = w5 at *
  clear hq24
  obtain ⟨p0, p1, p2, p3⟩ := four_at HQ24.out
  go_wp2_with fail
  refine (HFI.out _ R25.out).mono ?_; rintro e wn ⟨rfl, hb⟩
  have R20' := Lib.hid (rdNI R20.out hb)
  have R22' := Lib.hid (rdNI R22.out hb)
  have R25' := Lib.hid (rdNI R25.out hb)
  clear R20; have R20 := R20'; clear R20'
  clear R22; have R22 := R22'; clear R22'
  clear R25; have R25 := R25'; clear R25'
  have HQ3' := Lib.hid (blkI HQ3.out hb); clear HQ3; have HQ3 := HQ3'; clear HQ3'
  have HQ18' := Lib.hid (blkI HQ18.out hb); clear HQ18; have HQ18 := HQ18'; clear HQ18'
  have HQ24' := Lib.hid (blkI HQ24.out hb); clear HQ24; have HQ24 := HQ24'; clear HQ24'
  have HB' := Lib.hid (HB.out.trans (hb.mono HB.out.size)); clear HB; have HB := HB'; clear HB'
  clear hb HFI
  clear p0 p1 p2 p3
  obtain ⟨p0, p1, p2, p3⟩ := four_at HQ24.out
  go_wp2_with fail
  refine (HFS.out _ R25.out).mono ?_; rintro e wn ⟨rfl, hb⟩
  have R20' := Lib.hid (rdNI R20.out hb)
  have R22' := Lib.hid (rdNI R22.out hb)
  have R25' := Lib.hid (rdNI R25.out hb)
  clear R20; have R20 := R20'; clear R20'
  clear R22; have R22 := R22'; clear R22'
  clear R25; have R25 := R25'; clear R25'
  have HQ3' := Lib.hid (blkI HQ3.out hb); clear HQ3; have HQ3 := HQ3'; clear HQ3'
  have HQ18' := Lib.hid (blkI HQ18.out hb); clear HQ18; have HQ18 := HQ18'; clear HQ18'
  have HQ24' := Lib.hid (blkI HQ24.out hb); clear HQ24; have HQ24 := HQ24'; clear HQ24'
  have HB' := Lib.hid (HB.out.trans (hb.mono HB.out.size)); clear HB; have HB := HB'; clear HB'
  clear hb HFS
  clear p0 p1 p2 p3
  clear HQ24
  clear R25
  go_wp2_with fail
  refine (drawDL_any _ _ bs _ (HC.out.below HB.out) HB.out.size).mono ?_; rintro e wn ⟨⟨k30, b30, t30, f30⟩, rfl, hb⟩
  have R20' := Lib.hid (rdNI R20.out hb)
  have R22' := Lib.hid (rdNI R22.out hb)
  clear R20; have R20 := R20'; clear R20'
  clear R22; have R22 := R22'; clear R22'
  have HQ3' := Lib.hid (blkI HQ3.out hb); clear HQ3; have HQ3 := HQ3'; clear HQ3'
  have HQ18' := Lib.hid (blkI HQ18.out hb); clear HQ18; have HQ18 := HQ18'; clear HQ18'
  have HB' := Lib.hid (HB.out.trans (hb.mono HB.out.size)); clear HB; have HB := HB'; clear HB'
  clear hb
  have HLI := Lib.hid (fun wx => LinesI_any ⟨k30, b30, t30, f30⟩ wx)
  have HLS := Lib.hid (fun wx => LinesS_any ⟨k30, b30, t30, f30⟩ wx)
  have hL16 := linesD_len ⟨k30, b30, t30, f30⟩
  unfold RetDl at HLI HLS
  generalize linesD ⟨k30, b30, t30, f30⟩ = LD at *
  generalize (if okDm ⟨k30, b30, t30, f30⟩ = true then (0 : Int) else 1) = LC at *
  go_upto_region 16 with (fail)
  have hbw := (Below.refl wn.heap.size wn).alloc (Nat.le_refl _) (.cells #[.int .i64 k30, .int .i64 b30, .int .i64 t30, .int .i64 f30] 25)
  have HQ300 := Lib.hid (heap_alloc_new wn (.cells #[.int .i64 k30, .int .i64 b30, .int .i64 t30, .int .i64 f30] 25))
  have R20' := Lib.hid (rdNI R20.out hbw)
  have R22' := Lib.hid (rdNI R22.out hbw)
  clear R20; have R20 := R20'; clear R20'
  clear R22; have R22 := R22'; clear R22'
  have HQ3' := Lib.hid (blkI HQ3.out hbw); clear HQ3; have HQ3 := HQ3'; clear HQ3'
  have HQ18' := Lib.hid (blkI HQ18.out hbw); clear HQ18; have HQ18 := HQ18'; clear HQ18'
  have HB' := Lib.hid (HB.out.trans (hbw.mono HB.out.size)); clear HB; have HB := HB'; clear HB'
  have HQ30 := HQ300; clear HQ300
  clear hbw
  generalize hq30 : wn.heap.size = q30 at *
  generalize wn.alloc (.cells #[.int .i64 k30, .int .i64 b30, .int .i64 t30, .int .i64 f30] 25) = w5 at *
  clear hq30
  obtain ⟨p0, p1, p2, p3⟩ := four_at HQ30.out
  go_wp2_with fail
  refine (HLI.out _).mono ?_; rintro e wn ⟨v31, rfl, ho, hb⟩
  have R310 := Lib.hid (Rd.of_own ho)
  have R20' := Lib.hid (rdNI R20.out hb)
  have R22' := Lib.hid (rdNI R22.out hb)
  clear R20; have R20 := R20'; clear R20'
  clear R22; have R22 := R22'; clear R22'
  have HQ3' := Lib.hid (blkI HQ3.out hb); clear HQ3; have HQ3 := HQ3'; clear HQ3'
  have HQ18' := Lib.hid (blkI HQ18.out hb); clear HQ18; have HQ18 := HQ18'; clear HQ18'
  have HQ30' := Lib.hid (blkI HQ30.out hb); clear HQ30; have HQ30 := HQ30'; clear HQ30'
  have HB' := Lib.hid (HB.out.trans (hb.mono HB.out.size)); clear HB; have HB := HB'; clear HB'
  have R31 := R310; clear R310
  obtain ⟨A31, c31, rfl⟩ := own_sl ho
  clear ho hb HLI
  clear p0 p1 p2 p3
  obtain ⟨p0, p1, p2, p3⟩ := four_at HQ30.out
  go_wp2_with fail
  refine (HLS.out _).mono ?_; rintro e wn ⟨v33, rfl, ho, hb⟩
  have R330 := Lib.hid (Rd.of_own ho)
  have R20' := Lib.hid (rdNI R20.out hb)
  have R22' := Lib.hid (rdNI R22.out hb)
  have R31' := Lib.hid (rdNI R31.out hb)
  clear R20; have R20 := R20'; clear R20'
  clear R22; have R22 := R22'; clear R22'
  clear R31; have R31 := R31'; clear R31'
  have HQ3' := Lib.hid (blkI HQ3.out hb); clear HQ3; have HQ3 := HQ3'; clear HQ3'
  have HQ18' := Lib.hid (blkI HQ18.out hb); clear HQ18; have HQ18 := HQ18'; clear HQ18'
  have HQ30' := Lib.hid (blkI HQ30.out hb); clear HQ30; have HQ30 := HQ30'; clear HQ30'
  have HB' := Lib.hid (HB.out.trans (hb.mono HB.out.size)); clear HB; have HB := HB'; clear HB'
  have R33 := R330; clear R330
  obtain ⟨A33, c33, rfl⟩ := own_sl ho
  clear ho hb HLS
  clear p0 p1 p2 p3
  clear HQ30
  go_wp2_with fail
  refine (drawDN_any _ _ bs _ (HC.out.below HB.out) HB.out.size).mono ?_; rintro e wn ⟨x35, rfl, hb⟩
  have R20' := Lib.hid (rdNI R20.out hb)
  have R22' := Lib.hid (rdNI R22.out hb)
  have R31' := Lib.hid (rdNI R31.out hb)
  have R33' := Lib.hid (rdNI R33.out hb)
  clear R20; have R20 := R20'; clear R20'
  clear R22; have R22 := R22'; clear R22'
  clear R31; have R31 := R31'; clear R31'
  clear R33; have R33 := R33'; clear R33'
  have HQ3' := Lib.hid (blkI HQ3.out hb); clear HQ3; have HQ3 := HQ3'; clear HQ3'
  have HQ18' := Lib.hid (blkI HQ18.out hb); clear HQ18; have HQ18 := HQ18'; clear HQ18'
  have HB' := Lib.hid (HB.out.trans (hb.mono HB.out.size)); clear HB; have HB := HB'; clear HB'
  clear hb HC
  have HNI := Lib.hid (fun wx => NameI_any x35 wx)
  have HNS := Lib.hid (fun wx => NameS_any x35 wx)
  generalize nameDm x35 = NM at *
  go_wp2_with fail
  obtain ⟨p0, p1, p2, p3⟩ := four_at HQ3.out
  have hacc := (Below.refl wn.heap.size wn).drew
  refine wp_region_noPanic ?_
  refine wp_region_L [] (fun w' => w'.cell? ⟨q3, 0, none⟩ = some (.int .i64 k3) ∧ w'.cell? ⟨q3, 1, none⟩ = some (.int .i64 b3) ∧ w'.cell? ⟨q3, 2, none⟩ = some (.int .i64 t3) ∧ w'.cell? ⟨q3, 3, none⟩ = some (.int .i64 f3)) (by kernel_rfl) (⟨p0, p1, p2, p3⟩) (fun hHeld => ?_)
  refine take_F (i := 0) (d := some 138) (v := ?_) (by kernel_rfl) (by kernel_rfl) rfl rfl (by kernel_rfl) (by kernel_rfl) (by kernel_rfl) (fun _ _ _ h => h) (Or.inl ⟨by rfl, ?_⟩) (by assumption) ?_
  rotate_left
  · (intro w hSw; (try dsimp only at hSw); go_simp; (try rw [if_neg (by omega)]); (try (with_reducible rfl)))
  simp only [Act.put, List.setIfInBounds_toArray, List.set_cons_zero, List.set_cons_succ]
  refine take_F (i := 1) (d := some 139) (v := ?_) (by kernel_rfl) (by kernel_rfl) rfl rfl (by kernel_rfl) (by kernel_rfl) (by kernel_rfl) (fun _ _ _ h => h) (Or.inl ⟨by rfl, ?_⟩) (by assumption) ?_
  rotate_left
  · (intro w hSw; (try dsimp only at hSw); go_simp; (try rw [if_neg (by omega)]); (try (with_reducible rfl)))
  simp only [Act.put, List.setIfInBounds_toArray, List.set_cons_zero, List.set_cons_succ]
  refine take_F (i := 2) (d := some 140) (v := ?_) (by kernel_rfl) (by kernel_rfl) rfl rfl (by kernel_rfl) (by kernel_rfl) (by kernel_rfl) (fun _ _ _ h => h) (Or.inl ⟨by rfl, ?_⟩) (by assumption) ?_
  rotate_left
  · (intro w hSw; (try dsimp only at hSw); go_simp; (try rw [if_neg (by omega)]); (try (with_reducible rfl)))
  simp only [Act.put, List.setIfInBounds_toArray, List.set_cons_zero, List.set_cons_succ]
  refine take_F (i := 3) (d := some 141) (v := ?_) (by kernel_rfl) (by kernel_rfl) rfl rfl (by kernel_rfl) (by kernel_rfl) (by kernel_rfl) (fun _ _ _ h => h) (Or.inl ⟨by rfl, ?_⟩) (by assumption) ?_
  rotate_left
  · (intro w hSw; (try dsimp only at hSw); go_simp; (try rw [if_neg (by omega)]); (try (with_reducible rfl)))
  simp only [Act.put, List.setIfInBounds_toArray, List.set_cons_zero, List.set_cons_succ]
  refine take_F (i := 4) (d := some 142) (v := ?_) (by kernel_rfl) (by kernel_rfl) rfl rfl (by kernel_rfl) (by kernel_rfl) (by kernel_rfl) (fun _ _ _ h => h) (Or.inl ⟨by rfl, ?_⟩) (by assumption) ?_
  rotate_left
  · (intro w hSw; (try dsimp only at hSw); go_simp; (try rw [if_neg (by omega)]); (try (with_reducible rfl)))
  simp only [Act.put, List.setIfInBounds_toArray, List.set_cons_zero, List.set_cons_succ]
  refine take_F (i := 5) (d := some 143) (v := ?_) (by kernel_rfl) (by kernel_rfl) rfl rfl (by kernel_rfl) (by kernel_rfl) (by kernel_rfl) (fun _ _ _ h => h) (Or.inl ⟨by rfl, ?_⟩) (by assumption) ?_
  rotate_left
  · (intro w hSw; (try dsimp only at hSw); go_simp; (try rw [if_neg (by omega)]); (try (with_reducible rfl)))
  simp only [Act.put, List.setIfInBounds_toArray, List.set_cons_zero, List.set_cons_succ]
  refine take_F (i := 6) (d := some 144) (v := ?_) (by kernel_rfl) (by kernel_rfl) rfl rfl (by kernel_rfl) (by kernel_rfl) (by kernel_rfl) (fun _ _ _ h => h) (Or.inl ⟨by rfl, ?_⟩) (by assumption) ?_
  rotate_left
  · (intro w hSw; (try dsimp only at hSw); go_simp; (try rw [if_neg (by omega)]); (try (with_reducible rfl)))
  simp only [Act.put, List.setIfInBounds_toArray, List.set_cons_zero, List.set_cons_succ]
  refine take_F (i := 7) (d := some 145) (v := ?_) (by kernel_rfl) (by kernel_rfl) rfl rfl (by kernel_rfl) (by kernel_rfl) (by kernel_rfl) (fun _ _ _ h => h) (Or.inl ⟨by rfl, ?_⟩) (by assumption) ?_
  rotate_left
  · (intro w hSw; (try dsimp only at hSw); go_simp; (try rw [if_neg (by omega)]); (try (with_reducible rfl)))
  simp only [Act.put, List.setIfInBounds_toArray, List.set_cons_zero, List.set_cons_succ]
  refine take_F (i := 8) (d := some 146) (v := ?_) (by kernel_rfl) (by kernel_rfl) rfl rfl (by kernel_rfl) (by kernel_rfl) (by kernel_rfl) (fun _ _ _ h => h) (Or.inl ⟨by rfl, ?_⟩) (by assumption) ?_
  rotate_left
  · (intro w hSw; (try dsimp only at hSw); go_simp; (try rw [if_neg (by omega)]); (try (with_reducible rfl)))
  simp only [Act.put, List.setIfInBounds_toArray, List.set_cons_zero, List.set_cons_succ]
  refine take_F (i := 9) (d := some 147) (v := ?_) (by kernel_rfl) (by kernel_rfl) rfl rfl (by kernel_rfl) (by kernel_rfl) (by kernel_rfl) (fun _ _ _ h => h) (Or.inl ⟨by rfl, ?_⟩) (by assumption) ?_
  rotate_left
  · (intro w hSw; (try dsimp only at hSw); go_simp; (try rw [if_neg (by omega)]); (try (with_reducible rfl)))
  simp only [Act.put, List.setIfInBounds_toArray, List.set_cons_zero, List.set_cons_succ]
  refine take_F (i := 10) (d := some 148) (v := ?_) (by kernel_rfl) (by kernel_rfl) rfl rfl (by kernel_rfl) (by kernel_rfl) (by kernel_rfl) (fun _ _ _ h => h) (Or.inl ⟨by rfl, ?_⟩) (by assumption) ?_
  rotate_left
  · (intro w hSw; (try dsimp only at hSw); go_simp; (try rw [if_neg (by omega)]); (try (with_reducible rfl)))
  simp only [Act.put, List.setIfInBounds_toArray, List.set_cons_zero, List.set_cons_succ]
  refine take_F (i := 11) (d := some 149) (v := ?_) (by kernel_rfl) (by kernel_rfl) rfl rfl (by kernel_rfl) (by kernel_rfl) (by kernel_rfl) (fun _ _ _ h => h) (Or.inl ⟨by rfl, ?_⟩) (by assumption) ?_
  rotate_left
  · (intro w hSw; (try dsimp only at hSw); go_simp; (try rw [if_neg (by omega)]); (try (with_reducible rfl)))
  simp only [Act.put, List.setIfInBounds_toArray, List.set_cons_zero, List.set_cons_succ]
  refine take_F (i := 12) (d := some 150) (v := ?_) (by kernel_rfl) (by kernel_rfl) rfl rfl (by kernel_rfl) (by kernel_rfl) (by kernel_rfl) (fun _ _ _ h => h) (Or.inl ⟨by rfl, ?_⟩) (by assumption) ?_
  rotate_left
  · (intro w hSw; (try dsimp only at hSw); go_simp; (try rw [if_neg (by omega)]); (try (with_reducible rfl)))
  simp only [Act.put, List.setIfInBounds_toArray, List.set_cons_zero, List.set_cons_succ]
  refine take_F (i := 13) (d := some 151) (v := ?_) (by kernel_rfl) (by kernel_rfl) rfl rfl (by kernel_rfl) (by kernel_rfl) (by kernel_rfl) (fun _ _ _ h => h) (Or.inl ⟨by rfl, ?_⟩) (by assumption) ?_
  rotate_left
  · (intro w hSw; (try dsimp only at hSw); go_simp; (try rw [if_neg (by omega)]); (try (with_reducible rfl)))
  simp only [Act.put, List.setIfInBounds_toArray, List.set_cons_zero, List.set_cons_succ]
  refine take_F (i := 14) (d := some 152) (v := ?_) (by kernel_rfl) (by kernel_rfl) rfl rfl (by kernel_rfl) (by kernel_rfl) (by kernel_rfl) (fun _ _ _ h => h) (Or.inl ⟨by rfl, ?_⟩) (by assumption) ?_
  rotate_left
  · (intro w hSw; (try dsimp only at hSw); go_simp; (try rw [if_neg (by omega)]); (try (with_reducible rfl)))
  simp only [Act.put, List.setIfInBounds_toArray, List.set_cons_zero, List.set_cons_succ]
  refine take_F (i := 15) (d := some 153) (v := ?_) (by kernel_rfl) (by kernel_rfl) rfl rfl (by kernel_rfl) (by kernel_rfl) (by kernel_rfl) (fun _ _ _ h => h) (Or.inl ⟨by rfl, ?_⟩) (by assumption) ?_
  rotate_left
  · (intro w hSw; (try dsimp only at hSw); go_simp; (try rw [if_neg (by omega)]); (try (with_reducible rfl)))
  simp only [Act.put, List.setIfInBounds_toArray, List.set_cons_zero, List.set_cons_succ]
  refine take_F (i := 16) (d := some 154) (v := ?_) (by kernel_rfl) (by kernel_rfl) rfl rfl (by kernel_rfl) (by kernel_rfl) (by kernel_rfl) (fun _ _ _ h => h) (Or.inl ⟨by rfl, ?_⟩) (by assumption) ?_
  rotate_left
  · (intro w hSw; (try dsimp only at hSw); go_simp; (try rw [if_neg (by omega)]); (try (with_reducible rfl)))
  simp only [Act.put, List.setIfInBounds_toArray, List.set_cons_zero, List.set_cons_succ]
  refine take_F (i := 17) (d := some 155) (v := ?_) (by kernel_rfl) (by kernel_rfl) rfl rfl (by kernel_rfl) (by kernel_rfl) (by kernel_rfl) (fun _ _ _ h => h) (Or.inl ⟨by rfl, ?_⟩) (by assumption) ?_
  rotate_left
  · (intro w hSw; (try dsimp only at hSw); go_simp; (try rw [if_neg (by omega)]); (try (with_reducible rfl)))
  simp only [Act.put, List.setIfInBounds_toArray, List.set_cons_zero, List.set_cons_succ]
  refine take_F (i := 18) (d := some 156) (v := ?_) (by kernel_rfl) (by kernel_rfl) rfl rfl (by kernel_rfl) (by kernel_rfl) (by kernel_rfl) (fun _ _ _ h => h) (Or.inl ⟨by rfl, ?_⟩) (by assumption) ?_
  rotate_left
  · (intro w hSw; (try dsimp only at hSw); go_simp; (try rw [if_neg (by omega)]); (try (with_reducible rfl)))
  simp only [Act.put, List.setIfInBounds_toArray, List.set_cons_zero, List.set_cons_succ]
  refine take_F (i := 19) (d := some 157) (v := ?_) (by kernel_rfl) (by kernel_rfl) rfl rfl (by kernel_rfl) (by kernel_rfl) (by kernel_rfl) (fun _ _ _ h => h) (Or.inl ⟨by rfl, ?_⟩) (by assumption) ?_
  rotate_left
  · (intro w hSw; (try dsimp only at hSw); go_simp; (try rw [if_neg (by omega)]); (try (with_reducible rfl)))
  simp only [Act.put, List.setIfInBounds_toArray, List.set_cons_zero, List.set_cons_succ]
  refine take_F (i := 20) (d := some 158) (v := ?_) (by kernel_rfl) (by kernel_rfl) rfl rfl (by kernel_rfl) (by kernel_rfl) (by kernel_rfl) (fun _ _ _ h => h) (Or.inl ⟨by rfl, ?_⟩) (by assumption) ?_
  rotate_left
  · (intro w hSw; (try dsimp only at hSw); go_simp; (try rw [if_neg (by omega)]); (try (with_reducible rfl)))
  simp only [Act.put, List.setIfInBounds_toArray, List.set_cons_zero, List.set_cons_succ]
  refine take_F (i := 21) (d := some 159) (v := ?_) (by kernel_rfl) (by kernel_rfl) rfl rfl (by kernel_rfl) (by kernel_rfl) (by kernel_rfl) (fun _ _ _ h => h) (Or.inl ⟨by rfl, ?_⟩) (by assumption) ?_
  rotate_left
  · (intro w hSw; (try dsimp only at hSw); go_simp; (try rw [if_neg (by omega)]); (try (with_reducible rfl)))
  simp only [Act.put, List.setIfInBounds_toArray, List.set_cons_zero, List.set_cons_succ]
  refine take_F (i := 22) (d := some 160) (v := ?_) (by kernel_rfl) (by kernel_rfl) rfl rfl (by kernel_rfl) (by kernel_rfl) (by kernel_rfl) (fun _ _ _ h => h) (Or.inl ⟨by rfl, ?_⟩) (by assumption) ?_
  rotate_left
  · (intro w hSw; (try dsimp only at hSw); go_simp; (try rw [if_neg (by omega)]); (try (with_reducible rfl)))
  simp only [Act.put, List.setIfInBounds_toArray, List.set_cons_zero, List.set_cons_succ]
  refine take_F (i := 23) (d := some 161) (v := ?_) (by kernel_rfl) (by kernel_rfl) rfl rfl (by kernel_rfl) (by kernel_rfl) (by kernel_rfl) (fun _ _ _ h => h) (Or.inl ⟨by rfl, ?_⟩) (by assumption) ?_
  rotate_left
  · (intro w hSw; (try dsimp only at hSw); go_simp; (try rw [if_neg (by omega)]); (try (with_reducible rfl)))
  simp only [Act.put, List.setIfInBounds_toArray, List.set_cons_zero, List.set_cons_succ]
  refine take_F (i := 24) (d := some 162) (v := ?_) (by kernel_rfl) (by kernel_rfl) rfl rfl (by kernel_rfl) (by kernel_rfl) (by kernel_rfl) (fun _ _ _ h => h) (Or.inl ⟨by rfl, ?_⟩) (by assumption) ?_
  rotate_left
  · (intro w hSw; (try dsimp only at hSw); go_simp; (try rw [if_neg (by omega)]); (try (with_reducible rfl)))
  simp only [Act.put, List.setIfInBounds_toArray, List.set_cons_zero, List.set_cons_succ]
  refine take_F (i := 25) (d := some 163) (v := ?_) (by kernel_rfl) (by kernel_rfl) rfl rfl (by kernel_rfl) (by kernel_rfl) (by kernel_rfl) (fun _ _ _ h => h) (Or.inl ⟨by rfl, ?_⟩) (by assumption) ?_
  rotate_left
  · (intro w hSw; (try dsimp only at hSw); go_simp; (try rw [if_neg (by omega)]); (try (with_reducible rfl)))
  simp only [Act.put, List.setIfInBounds_toArray, List.set_cons_zero, List.set_cons_succ]
  refine call_L (i := 26) (d := (some 164)) rfl rfl (by kernel_rfl) (fun Kq hKq => ?_)
  go_simp
  go_at_call 25
  refine (f6ints_sameD _ _ _ _ N TF TF _ (R20.out.below hacc) (R22.out.below hacc) (by omega) (fun _ _ => rfl)).mono ?_; rintro e w51 ⟨rfl, nq, hwq⟩
  have hb := below_eqI hwq
  clear hwq
  have hS1 := four_kept hb ⟨p0, p1, p2, p3⟩
  have hac2 := hacc.trans (hb.mono hacc.size); clear hacc; have hacc := hac2; clear hac2 hb
  (try go_wp2_with fail)
  refine hKq.out _ _ (hS1) (fun hHeld => ?_)
  clear hKq Kq
  (try simp only [Act.put, List.setIfInBounds_toArray, List.set_cons_zero, List.set_cons_succ])
  refine take_F (i := 27) (d := some 165) (v := ?_) (by kernel_rfl) (by kernel_rfl) rfl rfl (by kernel_rfl) (by kernel_rfl) (by kernel_rfl) (fun _ _ _ h => h) (Or.inl ⟨by rfl, ?_⟩) (by assumption) ?_
  rotate_left
  · (intro w hSw; (try dsimp only at hSw); go_simp; (try rw [if_neg (by omega)]); (try (with_reducible rfl)))
  simp only [Act.put, List.setIfInBounds_toArray, List.set_cons_zero, List.set_cons_succ]
  refine take_F (i := 28) (d := some 166) (v := ?_) (by kernel_rfl) (by kernel_rfl) rfl rfl (by kernel_rfl) (by kernel_rfl) (by kernel_rfl) (fun _ _ _ h => h) (Or.inl ⟨by rfl, ?_⟩) (by assumption) ?_
  rotate_left
  · (intro w hSw; (try dsimp only at hSw); go_simp; (try rw [if_neg (by omega)]); (try (with_reducible rfl)))
  simp only [Act.put, List.setIfInBounds_toArray, List.set_cons_zero, List.set_cons_succ]
  refine take_F (i := 29) (d := some 167) (v := ?_) (by kernel_rfl) (by kernel_rfl) rfl rfl (by kernel_rfl) (by kernel_rfl) (by kernel_rfl) (fun _ _ _ h => h) (Or.inl ⟨by rfl, ?_⟩) (by assumption) ?_
  rotate_left
  · (intro w hSw; (try dsimp only at hSw); go_simp; (try rw [if_neg (by omega)]); (try (with_reducible rfl)))
  simp only [Act.put, List.setIfInBounds_toArray, List.set_cons_zero, List.set_cons_succ]
  refine take_F (i := 30) (d := some 168) (v := ?_) (by kernel_rfl) (by kernel_rfl) rfl rfl (by kernel_rfl) (by kernel_rfl) (by kernel_rfl) (fun _ _ _ h => h) (Or.inl ⟨by rfl, ?_⟩) (by assumption) ?_
  rotate_left
  · (intro w hSw; (try dsimp only at hSw); go_simp; (try rw [if_neg (by omega)]); (try (with_reducible rfl)))
  simp only [Act.put, List.setIfInBounds_toArray, List.set_cons_zero, List.set_cons_succ]
  refine take_F (i := 31) (d := some 169) (v := ?_) (by kernel_rfl) (by kernel_rfl) rfl rfl (by kernel_rfl) (by kernel_rfl) (by kernel_rfl) (fun _ _ _ h => h) (Or.inl ⟨by rfl, ?_⟩) (by assumption) ?_
  rotate_left
  · (intro w hSw; (try dsimp only at hSw); go_simp; (try rw [if_neg (by omega)]); (try (with_reducible rfl)))
  simp only [Act.put, List.setIfInBounds_toArray, List.set_cons_zero, List.set_cons_succ]
  refine take_F (i := 32) (d := some 170) (v := ?_) (by kernel_rfl) (by kernel_rfl) rfl rfl (by kernel_rfl) (by kernel_rfl) (by kernel_rfl) (fun _ _ _ h => h) (Or.inl ⟨by rfl, ?_⟩) (by assumption) ?_
  rotate_left
  · (intro w hSw; (try dsimp only at hSw); go_simp; (try rw [if_neg (by omega)]); (try (with_reducible rfl)))
  simp only [Act.put, List.setIfInBounds_toArray, List.set_cons_zero, List.set_cons_succ]
  refine take_F (i := 33) (d := some 171) (v := ?_) (by kernel_rfl) (by kernel_rfl) rfl rfl (by kernel_rfl) (by kernel_rfl) (by kernel_rfl) (fun _ _ _ h => h) (Or.inl ⟨by rfl, ?_⟩) (by assumption) ?_
  rotate_left
  · (intro w hSw; (try dsimp only at hSw); go_simp; (try rw [if_neg (by omega)]); (try (with_reducible rfl)))
  simp only [Act.put, List.setIfInBounds_toArray, List.set_cons_zero, List.set_cons_succ]
  refine take_F (i := 34) (d := some 172) (v := ?_) (by kernel_rfl) (by kernel_rfl) rfl rfl (by kernel_rfl) (by kernel_rfl) (by kernel_rfl) (fun _ _ _ h => h) (Or.inl ⟨by rfl, ?_⟩) (by assumption) ?_
  rotate_left
  · (intro w hSw; (try dsimp only at hSw); go_simp; (try rw [if_neg (by omega)]); (try (with_reducible rfl)))
  simp only [Act.put, List.setIfInBounds_toArray, List.set_cons_zero, List.set_cons_succ]
  refine take_F (i := 35) (d := some 173) (v := ?_) (by kernel_rfl) (by kernel_rfl) rfl rfl (by kernel_rfl) (by kernel_rfl) (by kernel_rfl) (fun _ _ _ h => h) (Or.inl ⟨by rfl, ?_⟩) (by assumption) ?_
  rotate_left
  · (intro w hSw; (try dsimp only at hSw); go_simp; (try rw [if_neg (by omega)]); (try (with_reducible rfl)))
  simp only [Act.put, List.setIfInBounds_toArray, List.set_cons_zero, List.set_cons_succ]
  refine take_F (i := 36) (d := some 174) (v := ?_) (by kernel_rfl) (by kernel_rfl) rfl rfl (by kernel_rfl) (by kernel_rfl) (by kernel_rfl) (fun _ _ _ h => h) (Or.inl ⟨by rfl, ?_⟩) (by assumption) ?_
  rotate_left
  · (intro w hSw; (try dsimp only at hSw); go_simp; (try rw [if_neg (by omega)]); (try (with_reducible rfl)))
  simp only [Act.put, List.setIfInBounds_toArray, List.set_cons_zero, List.set_cons_succ]
  refine take_F (i := 37) (d := some 175) (v := ?_) (by kernel_rfl) (by kernel_rfl) rfl rfl (by kernel_rfl) (by kernel_rfl) (by kernel_rfl) (fun _ _ _ h => h) (Or.inl ⟨by rfl, ?_⟩) (by assumption) ?_
  rotate_left
  · (intro w hSw; (try dsimp only at hSw); go_simp; (try rw [if_neg (by omega)]); (try (with_reducible rfl)))
  simp only [Act.put, List.setIfInBounds_toArray, List.set_cons_zero, List.set_cons_succ]
  refine take_F (i := 38) (d := some 176) (v := ?_) (by kernel_rfl) (by kernel_rfl) rfl rfl (by kernel_rfl) (by kernel_rfl) (by kernel_rfl) (fun _ _ _ h => h) (Or.inl ⟨by rfl, ?_⟩) (by assumption) ?_
  rotate_left
  · (intro w hSw; (try dsimp only at hSw); go_simp; (try rw [if_neg (by omega)]); (try (with_reducible rfl)))
  simp only [Act.put, List.setIfInBounds_toArray, List.set_cons_zero, List.set_cons_succ]
  refine take_F (i := 39) (d := some 177) (v := ?_) (by kernel_rfl) (by kernel_rfl) rfl rfl (by kernel_rfl) (by kernel_rfl) (by kernel_rfl) (fun _ _ _ h => h) (Or.inl ⟨by rfl, ?_⟩) (by assumption) ?_
  rotate_left
  · (intro w hSw; (try dsimp only at hSw); go_simp; (try rw [if_neg (by omega)]); (try (with_reducible rfl)))
  simp only [Act.put, List.setIfInBounds_toArray, List.set_cons_zero, List.set_cons_succ]
  refine take_F (i := 40) (d := some 178) (v := ?_) (by kernel_rfl) (by kernel_rfl) rfl rfl (by kernel_rfl) (by kernel_rfl) (by kernel_rfl) (fun _ _ _ h => h) (Or.inl ⟨by rfl, ?_⟩) (by assumption) ?_
  rotate_left
  · (intro w hSw; (try dsimp only at hSw); go_simp; (try rw [if_neg (by omega)]); (try (with_reducible rfl)))
  simp only [Act.put, List.setIfInBounds_toArray, List.set_cons_zero, List.set_cons_succ]
  refine take_F (i := 41) (d := some 179) (v := ?_) (by kernel_rfl) (by kernel_rfl) rfl rfl (by kernel_rfl) (by kernel_rfl) (by kernel_rfl) (fun _ _ _ h => h) (Or.inl ⟨by rfl, ?_⟩) (by assumption) ?_
  rotate_left
  · (intro w hSw; (try dsimp only at hSw); go_simp; (try rw [if_neg (by omega)]); (try (with_reducible rfl)))
  simp only [Act.put, List.setIfInBounds_toArray, List.set_cons_zero, List.set_cons_succ]
  refine take_F (i := 42) (d := some 180) (v := ?_) (by kernel_rfl) (by kernel_rfl) rfl rfl (by kernel_rfl) (by kernel_rfl) (by kernel_rfl) (fun _ _ _ h => h) (Or.inl ⟨by rfl, ?_⟩) (by assumption) ?_
  rotate_left
  · (intro w hSw; (try dsimp only at hSw); go_simp; (try rw [if_neg (by omega)]); (try (with_reducible rfl)))
  simp only [Act.put, List.setIfInBounds_toArray, List.set_cons_zero, List.set_cons_succ]
  refine take_F (i := 43) (d := some 181) (v := ?_) (by kernel_rfl) (by kernel_rfl) rfl rfl (by kernel_rfl) (by kernel_rfl) (by kernel_rfl) (fun _ _ _ h => h) (Or.inl ⟨by rfl, ?_⟩) (by assumption) ?_
  rotate_left
  · (intro w hSw; (try dsimp only at hSw); go_simp; (try rw [if_neg (by omega)]); (try (with_reducible rfl)))
  simp only [Act.put, List.setIfInBounds_toArray, List.set_cons_zero, List.set_cons_succ]
  refine take_F (i := 44) (d := some 182) (v := ?_) (by kernel_rfl) (by kernel_rfl) rfl rfl (by kernel_rfl) (by kernel_rfl) (by kernel_rfl) (fun _ _ _ h => h) (Or.inl ⟨by rfl, ?_⟩) (by assumption) ?_
  rotate_left
  · (intro w hSw; (try dsimp only at hSw); go_simp; (try rw [if_neg (by omega)]); (try (with_reducible rfl)))
  simp only [Act.put, List.setIfInBounds_toArray, List.set_cons_zero, List.set_cons_succ]
  refine take_F (i := 45) (d := some 183) (v := ?_) (by kernel_rfl) (by kernel_rfl) rfl rfl (by kernel_rfl) (by kernel_rfl) (by kernel_rfl) (fun _ _ _ h => h) (Or.inl ⟨by rfl, ?_⟩) (by assumption) ?_
  rotate_left
  · (intro w hSw; (try dsimp only at hSw); go_simp; (try rw [if_neg (by omega)]); (try (with_reducible rfl)))
  simp only [Act.put, List.setIfInBounds_toArray, List.set_cons_zero, List.set_cons_succ]
  refine take_F (i := 46) (d := some 184) (v := ?_) (by kernel_rfl) (by kernel_rfl) rfl rfl (by kernel_rfl) (by kernel_rfl) (by kernel_rfl) (fun _ _ _ h => h) (Or.inl ⟨by rfl, ?_⟩) (by assumption) ?_
  rotate_left
  · (intro w hSw; (try dsimp only at hSw); go_simp; (try rw [if_neg (by omega)]); (try (with_reducible rfl)))
  simp only [Act.put, List.setIfInBounds_toArray, List.set_cons_zero, List.set_cons_succ]
  refine call_L (i := 47) (d := (some 185)) rfl rfl (by kernel_rfl) (fun Kq hKq => ?_)
  go_simp
  go_at_call 26
  refine (f6texts_sameD _ _ _ _ LD _ (R31.out.below hacc) (R33.out.below hacc) (by omega)).mono ?_; rintro e w52 ⟨rfl, nq, hwq⟩
  have hb := below_eqI hwq
  clear hwq
  have hS2 := four_kept hb hS1
  have hac2 := hacc.trans (hb.mono hacc.size); clear hacc; have hacc := hac2; clear hac2 hb
  (try go_wp2_with fail)
  refine hKq.out _ _ (hS2) (fun hHeld => ?_)
  clear hKq Kq
  (try simp only [Act.put, List.setIfInBounds_toArray, List.set_cons_zero, List.set_cons_succ])
  refine take_F (i := 48) (d := some 186) (v := ?_) (by kernel_rfl) (by kernel_rfl) rfl rfl (by kernel_rfl) (by kernel_rfl) (by kernel_rfl) (fun _ _ _ h => h) (Or.inl ⟨by rfl, ?_⟩) (by assumption) ?_
  rotate_left
  · (intro w hSw; (try dsimp only at hSw); go_simp; (try rw [if_neg (by omega)]); (try (with_reducible rfl)))
  simp only [Act.put, List.setIfInBounds_toArray, List.set_cons_zero, List.set_cons_succ]
  refine take_F (i := 49) (d := some 187) (v := ?_) (by kernel_rfl) (by kernel_rfl) rfl rfl (by kernel_rfl) (by kernel_rfl) (by kernel_rfl) (fun _ _ _ h => h) (Or.inl ⟨by rfl, ?_⟩) (by assumption) ?_
  rotate_left
  · (intro w hSw; (try dsimp only at hSw); go_simp; (try rw [if_neg (by omega)]); (try (with_reducible rfl)))
  simp only [Act.put, List.setIfInBounds_toArray, List.set_cons_zero, List.set_cons_succ]
  refine take_F (i := 50) (d := some 188) (v := ?_) (by kernel_rfl) (by kernel_rfl) rfl rfl (by kernel_rfl) (by kernel_rfl) (by kernel_rfl) (fun _ _ _ h => h) (Or.inl ⟨by rfl, ?_⟩) (by assumption) ?_
  rotate_left
  · (intro w hSw; (try dsimp only at hSw); go_simp; (try rw [if_neg (by omega)]); (try (with_reducible rfl)))
  simp only [Act.put, List.setIfInBounds_toArray, List.set_cons_zero, List.set_cons_succ]
  refine take_F (i := 51) (d := some 189) (v := ?_) (by kernel_rfl) (by kernel_rfl) rfl rfl (by kernel_rfl) (by kernel_rfl) (by kernel_rfl) (fun _ _ _ h => h) (Or.inl ⟨by rfl, ?_⟩) (by assumption) ?_
  rotate_left
  · (intro w hSw; (try dsimp only at hSw); go_simp; (try rw [if_neg (by omega)]); (try (with_reducible rfl)))
  simp only [Act.put, List.setIfInBounds_toArray, List.set_cons_zero, List.set_cons_succ]
  refine take_F (i := 53) (d := some 191) (v := ?_) (by kernel_rfl) (by kernel_rfl) rfl rfl (by kernel_rfl) (by kernel_rfl) (by kernel_rfl) (fun _ _ _ h => h) (Or.inl ⟨by rfl, ?_⟩) (by assumption) ?_
  rotate_left
  · (intro w hSw; (try dsimp only at hSw); go_simp; (try rw [if_neg (by omega)]); (try (with_reducible rfl)))
  simp only [Act.put, List.setIfInBounds_toArray, List.set_cons_zero, List.set_cons_succ]
  refine call_L (i := 52) (d := (some 190)) rfl rfl (by kernel_rfl) (fun Kq hKq => ?_)
  go_simp
  go_at_call 27
  refine (HNI.out _).mono ?_; rintro e w53 ⟨rfl, rfl⟩
  (try go_wp2_with fail)
  refine hKq.out _ _ (hS2) (fun hHeld => ?_)
  clear hKq Kq
  (try simp only [Act.put, List.setIfInBounds_toArray, List.set_cons_zero, List.set_cons_succ])
  refine call_L (i := 54) (d := (some 192)) rfl rfl (by kernel_rfl) (fun Kq hKq => ?_)
  go_simp
  go_at_call 28
  refine (HNS.out _).mono ?_; rintro e w54 ⟨rfl, hb⟩
  have hS4 := four_kept hb hS2
  have hac2 := hacc.trans (hb.mono hacc.size); clear hacc; have hacc := hac2; clear hac2 hb
  (try go_wp2_with fail)
  refine hKq.out _ _ (hS4) (fun hHeld => ?_)
  clear hKq Kq
  (try simp only [Act.put, List.setIfInBounds_toArray, List.set_cons_zero, List.set_cons_succ])
  refine take_F (i := 55) (d := some 193) (v := ?_) (by kernel_rfl) (by kernel_rfl) rfl rfl (by kernel_rfl) (by kernel_rfl) (by kernel_rfl) (fun _ _ _ h => h) (Or.inl ⟨by rfl, ?_⟩) (by assumption) ?_
  rotate_left
  · (intro w hSw; (try dsimp only at hSw); go_simp; (try rw [if_neg (by omega)]); (try (with_reducible rfl)))
  simp only [Act.put, List.setIfInBounds_toArray, List.set_cons_zero, List.set_cons_succ]
  refine take_F (i := 56) (d := some 194) (v := ?_) (by kernel_rfl) (by kernel_rfl) rfl rfl (by kernel_rfl) (by kernel_rfl) (by kernel_rfl) (fun _ _ _ h => h) (Or.inl ⟨by rfl, ?_⟩) (by assumption) ?_
  rotate_left
  · (intro w hSw; (try dsimp only at hSw); go_simp; (try rw [if_neg (by omega)]); (try (with_reducible rfl)))
  simp only [Act.put, List.setIfInBounds_toArray, List.set_cons_zero, List.set_cons_succ]
  refine take_F (i := 57) (d := some 195) (v := ?_) (by kernel_rfl) (by kernel_rfl) rfl rfl (by kernel_rfl) (by kernel_rfl) (by kernel_rfl) (fun _ _ _ h => h) (Or.inl ⟨by rfl, ?_⟩) (by assumption) ?_
  rotate_left
  · (intro w hSw; (try dsimp only at hSw); go_simp; (try rw [if_neg (by omega)]); (try (with_reducible rfl)))
  simp only [Act.put, List.setIfInBounds_toArray, List.set_cons_zero, List.set_cons_succ]
  refine take_L [62,59,58] (i := 58) (d := some 196) (v := ?_) (by kernel_rfl) (by kernel_rfl) (by kernel_rfl) (by kernel_rfl) rfl rfl (by kernel_rfl) (by kernel_rfl) (by kernel_rfl) (fun _ _ _ h => h) (Or.inl ⟨by rfl, ?_⟩) (by assumption) ?_
  rotate_left
  · (intro w hSw; (try dsimp only at hSw); go_simp; (try rw [if_neg (by omega)]); (try (with_reducible rfl)))
  simp only [Act.put, List.setIfInBounds_toArray, List.set_cons_zero, List.set_cons_succ]
  refine take_L [62,61,60] (i := 60) (d := some 198) (v := ?_) (by kernel_rfl) (by kernel_rfl) (by kernel_rfl) (by kernel_rfl) rfl rfl (by kernel_rfl) (by kernel_rfl) (by kernel_rfl) (fun _ _ _ h => h) (Or.inl ⟨by rfl, ?_⟩) (by assumption) ?_
  rotate_left
  · (intro w hSw; (try dsimp only at hSw); go_simp; (try rw [if_neg (by omega)]); (try (with_reducible rfl)))
  simp only [Act.put, List.setIfInBounds_toArray, List.set_cons_zero, List.set_cons_succ]
  refine call_L (i := 59) (d := (some 197)) rfl rfl (by kernel_rfl) (fun Kq hKq => ?_)
  go_simp
  go_at_call 29
  refine (HVI.out _).mono ?_; rintro e w55 ⟨rfl, hb⟩
  have hS5 := four_kept hb hS4
  have hac2 := hacc.trans (hb.mono hacc.size); clear hacc; have hacc := hac2; clear hac2 hb
  (try go_wp2_with fail)
  refine hKq.out _ _ (hS5) (fun hHeld => ?_)
  clear hKq Kq
  (try simp only [Act.put, List.setIfInBounds_toArray, List.set_cons_zero, List.set_cons_succ])
  refine call_L (i := 61) (d := (some 199)) rfl rfl (by kernel_rfl) (fun Kq hKq => ?_)
  go_simp
  go_at_call 30
  refine (HVS.out _).mono ?_; rintro e w56 ⟨rfl, hb⟩
  have hS6 := four_kept hb hS5
  have hac2 := hacc.trans (hb.mono hacc.size); clear hacc; have hacc := hac2; clear hac2 hb
  (try go_wp2_with fail)
  refine hKq.out _ _ (hS6) (fun hHeld => ?_)
  clear hKq Kq
  (try simp only [Act.put, List.setIfInBounds_toArray, List.set_cons_zero, List.set_cons_succ])
  refine take_F (i := 62) (d := some 200) (v := ?_) (by kernel_rfl) (by kernel_rfl) rfl rfl (by kernel_rfl) (by kernel_rfl) (by kernel_rfl) (fun _ _ _ h => h) (Or.inl ⟨by rfl, ?_⟩) (by assumption) ?_
  rotate_left
  · (intro w hSw; (try dsimp only at hSw); go_simp; (try rw [if_neg (by omega)]); (try (with_reducible rfl)))
  simp only [Act.put, List.setIfInBounds_toArray, List.set_cons_zero, List.set_cons_succ]
  refine take_F (i := 63) (d := some 201) (v := ?_) (by kernel_rfl) (by kernel_rfl) rfl rfl (by kernel_rfl) (by kernel_rfl) (by kernel_rfl) (fun _ _ _ h => h) (Or.inl ⟨by rfl, ?_⟩) (by assumption) ?_
  rotate_left
  · (intro w hSw; (try dsimp only at hSw); go_simp; (try rw [if_neg (by omega)]); (try (with_reducible rfl)))
  simp only [Act.put, List.setIfInBounds_toArray, List.set_cons_zero, List.set_cons_succ]
  refine done_L (by kernel_rfl) ?_ _
  refine NoPanic.normal ?_
  clear p0 p1 p2 p3
  clear hS1 hS2 hS4 hS5 hS6
  have R20' := Lib.hid (rdNI R20.out hacc)
  have R22' := Lib.hid (rdNI R22.out hacc)
  have R31' := Lib.hid (rdNI R31.out hacc)
  have R33' := Lib.hid (rdNI R33.out hacc)
  clear R20; have R20 := R20'; clear R20'
  clear R22; have R22 := R22'; clear R22'
  clear R31; have R31 := R31'; clear R31'
  clear R33; have R33 := R33'; clear R33'
  have HQ3' := Lib.hid (blkI HQ3.out hacc); clear HQ3; have HQ3 := HQ3'; clear HQ3'
  have HQ18' := Lib.hid (blkI HQ18.out hacc); clear HQ18; have HQ18 := HQ18'; clear HQ18'
  have HB' := Lib.hid (HB.out.trans (hacc.mono HB.out.size)); clear HB; have HB := HB'; clear HB'
  clear hacc
  clear R22 R31 R33 HNI HNS HVI HVS
  by_cases hz : C18 = 0
  · subst hz
    obtain ⟨e1, e2, e3, e4⟩ := HZL.out rfl
    obtain ⟨g1, g2⟩ := HZB.out rfl
    rw [e1, e2] at HZ1
    rw [e3, e4] at HZ2
    clear e1 e2 e3 e4 HZL HZB
    have HG1 := Lib.hid g1
    have HG2 := Lib.hid g2
    clear g1 g2
    obtain ⟨p0, p1, p2, p3⟩ := four_at HQ18.out
    go_wp2_with fail
    refine (HZ1.out _).mono ?_; rintro e wn ⟨rfl, hb⟩
    have R20' := Lib.hid (rdNI R20.out hb)
    clear R20; have R20 := R20'; clear R20'
    have HQ3' := Lib.hid (blkI HQ3.out hb); clear HQ3; have HQ3 := HQ3'; clear HQ3'
    have HQ18' := Lib.hid (blkI HQ18.out hb); clear HQ18; have HQ18 := HQ18'; clear HQ18'
    have HB' := Lib.hid (HB.out.trans (hb.mono HB.out.size)); clear HB; have HB := HB'; clear HB'
    clear hb HZ1
    clear p0 p1 p2 p3
    obtain ⟨p0, p1, p2, p3⟩ := four_at HQ18.out
    go_wp2_with fail
    refine (HZ2.out _ _ R20.out).mono ?_; rintro e wn ⟨rfl, hb⟩
    have R20' := Lib.hid (rdNI R20.out hb)
    clear R20; have R20 := R20'; clear R20'
    have HQ3' := Lib.hid (blkI HQ3.out hb); clear HQ3; have HQ3 := HQ3'; clear HQ3'
    have HQ18' := Lib.hid (blkI HQ18.out hb); clear HQ18; have HQ18 := HQ18'; clear HQ18'
    have HB' := Lib.hid (HB.out.trans (hb.mono HB.out.size)); clear HB; have HB := HB'; clear HB'
    clear hb HZ2
    clear p0 p1 p2 p3
    go_wp2_with fail
    generalize hW1 : wn = w1 at *
    clear hW1
    go_loopw [40] (fun i wr => ∃ j : Nat, j ≤ N ∧ i = .int .i64 (j : Int) ∧ Below w1.heap.size w1 wr) (fun i _ => N - (intOf i).toNat)
    case atStart => exact ⟨0, Nat.zero_le _, rfl, Below.refl _ _⟩
    case round =>
      obtain ⟨j, hj, rfl, hbl⟩ := hrel
      have HRY := Lib.hid (rdNI R20.out hbl)
      have HBL := Lib.hid hbl
      by_cases hlt : j < N
      · have hlt' : (j : Int) < (N : Int) := by omega
        obtain ⟨_, _, p2, _⟩ := four_at (blkI HQ18.out hbl)
        obtain ⟨bb, oo, hA, _, hcc⟩ := rdF_all HRY.out (by omega)
        subst hA
        obtain ⟨z1, z2⟩ := HG1.out j hlt
        have hcj := hcc j hlt
        by_cases hj0 : j = 0
        · subst hj0
          clear hcc hbl
          generalize TF 0 = z at *
          have n1 : ¬ z < 1 := by omega
          have n2 : ¬ t18 < z := by omega
          go_wp2_with fail
          have hcj0 : wr.cell? ⟨bb, oo, none⟩ = some (.int .i64 z) := hcj
          refine wp_region_noPanic ?_
          refine wp_region_L [] (fun w' => w'.cell? ⟨bb, oo + 0, none⟩ = some (.int .i64 z) ∧ w'.cell? ⟨bb, oo, none⟩ = some (.int .i64 z) ∧ w'.cell? ⟨q18, 2, none⟩ = some (.int .i64 t18)) (by kernel_rfl) (⟨hcj, hcj0, p2⟩) (fun hHeld => ?_)
          refine take_F (i := 0) (d := some 240) (v := ?_) (by kernel_rfl) (by kernel_rfl) rfl rfl (by kernel_rfl) (by kernel_rfl) (by kernel_rfl) (fun _ _ _ h => h) (Or.inl ⟨by rfl, ?_⟩) (by assumption) ?_
          rotate_left
          · (intro w hSw; (try dsimp only at hSw); go_simp; (try rw [if_neg (by omega)]); (try (with_reducible rfl)))
          simp only [Act.put, List.setIfInBounds_toArray, List.set_cons_zero, List.set_cons_succ]
          refine take_F (i := 1) (d := some 241) (v := ?_) (by kernel_rfl) (by kernel_rfl) rfl rfl (by kernel_rfl) (by kernel_rfl) (by kernel_rfl) (fun _ _ _ h => h) (Or.inl ⟨by rfl, ?_⟩) (by assumption) ?_
          rotate_left
          · (intro w hSw; (try dsimp only at hSw); go_simp; (try rw [if_neg (by omega)]); (try (with_reducible rfl)))
          simp only [Act.put, List.setIfInBounds_toArray, List.set_cons_zero, List.set_cons_succ]
          refine take_F (i := 2) (d := some 242) (v := ?_) (by kernel_rfl) (by kernel_rfl) rfl rfl (by kernel_rfl) (by kernel_rfl) (by kernel_rfl) (fun _ _ _ h => h) (Or.inl ⟨by rfl, ?_⟩) (by assumption) ?_
          rotate_left
          · (intro w hSw; (try dsimp only at hSw); go_simp; (try rw [if_neg (by omega)]); (try (with_reducible rfl)))
          simp only [Act.put, List.setIfInBounds_toArray, List.set_cons_zero, List.set_cons_succ]
          refine take_L [14,5,4,3] (i := 3) (d := some 243) (v := ?_) (by kernel_rfl) (by kernel_rfl) (by kernel_rfl) (by kernel_rfl) rfl rfl (by kernel_rfl) (by kernel_rfl) (by kernel_rfl) (fun _ _ _ h => h) (Or.inl ⟨by rfl, ?_⟩) (by assumption) ?_
          rotate_left
          · (intro w hSw; (try dsimp only at hSw); go_simp; (try rw [if_neg (by omega)]); (try (with_reducible rfl)))
          simp only [Act.put, List.setIfInBounds_toArray, List.set_cons_zero, List.set_cons_succ]
          refine take_F (i := 4) (d := some 244) (v := .bool false) (by kernel_rfl) (by kernel_rfl) rfl rfl (by kernel_rfl) (by kernel_rfl) (by kernel_rfl) (fun _ _ _ h => h) (Or.inl ⟨by rfl, ?_⟩) (by assumption) ?_
          · (intro w hSw; (try dsimp only at hSw); go_simp <;> first | omega | (simp; done) | (simp; omega) | (rw [IntWalk.i64_in _ (by omega)]; done) | (rw [IntWalk.i64_in _ (by omega), hji]; done) | (rw [IntWalk.i64_in _ (by omega)]; omega))
          simp only [Act.put, List.setIfInBounds_toArray, List.set_cons_zero, List.set_cons_succ]
          refine take_F (i := 5) (d := some 245) (v := ?_) (by kernel_rfl) (by kernel_rfl) rfl rfl (by kernel_rfl) (by kernel_rfl) (by kernel_rfl) (fun _ _ _ h => h) (Or.inl ⟨by rfl, ?_⟩) (by assumption) ?_
          rotate_left
          · (intro w hSw; (try dsimp only at hSw); go_simp; (try rw [if_neg (by omega)]); (try (with_reducible rfl)))
          simp only [Act.put, List.setIfInBounds_toArray, List.set_cons_zero, List.set_cons_succ]
          refine take_F (i := 6) (d := some 246) (v := ?_) (by kernel_rfl) (by kernel_rfl) rfl rfl (by kernel_rfl) (by kernel_rfl) (by kernel_rfl) (fun _ _ _ h => h) (Or.inl ⟨by rfl, ?_⟩) (by assumption) ?_
          rotate_left
          · (intro w hSw; (try dsimp only at hSw); go_simp; (try rw [if_neg (by omega)]); (try (with_reducible rfl)))
          simp only [Act.put, List.setIfInBounds_toArray, List.set_cons_zero, List.set_cons_succ]
          refine take_F (i := 7) (d := some 247) (v := ?_) (by kernel_rfl) (by kernel_rfl) rfl rfl (by kernel_rfl) (by kernel_rfl) (by kernel_rfl) (fun _ _ _ h => h) (Or.inl ⟨by rfl, ?_⟩) (by assumption) ?_
          rotate_left
          · (intro w hSw; (try dsimp only at hSw); go_simp; (try rw [if_neg (by omega)]); (try (with_reducible rfl)))
          simp only [Act.put, List.setIfInBounds_toArray, List.set_cons_zero, List.set_cons_succ]
          refine take_F (i := 8) (d := some 248) (v := ?_) (by kernel_rfl) (by kernel_rfl) rfl rfl (by kernel_rfl) (by kernel_rfl) (by kernel_rfl) (fun _ _ _ h => h) (Or.inl ⟨by rfl, ?_⟩) (by assumption) ?_
          rotate_left
          · (intro w hSw; (try dsimp only at hSw); go_simp; (try rw [if_neg (by omega)]); (try (with_reducible rfl)))
          simp only [Act.put, List.setIfInBounds_toArray, List.set_cons_zero, List.set_cons_succ]
          refine take_L [14,13,12,9] (i := 9) (d := some 249) (v := ?_) (by kernel_rfl) (by kernel_rfl) (by kernel_rfl) (by kernel_rfl) rfl rfl (by kernel_rfl) (by kernel_rfl) (by kernel_rfl) (fun _ _ _ h => h) (Or.inl ⟨by rfl, ?_⟩) (by assumption) ?_
          rotate_left
          · (intro w hSw; (try dsimp only at hSw); go_simp; (try rw [if_neg (by omega)]); (try (with_reducible rfl)))
          simp only [Act.put, List.setIfInBounds_toArray, List.set_cons_zero, List.set_cons_succ]
          refine take_F (i := 10) (d := some 250) (v := ?_) (by kernel_rfl) (by kernel_rfl) rfl rfl (by kernel_rfl) (by kernel_rfl) (by kernel_rfl) (fun _ _ _ h => h) (Or.inl ⟨by rfl, ?_⟩) (by assumption) ?_
          rotate_left
          · (intro w hSw; (try dsimp only at hSw); go_simp; (try rw [if_neg (by omega)]); (try (with_reducible rfl)))
          simp only [Act.put, List.setIfInBounds_toArray, List.set_cons_zero, List.set_cons_succ]
          refine take_L [14,13,12,11] (i := 11) (d := some 251) (v := ?_) (by kernel_rfl) (by kernel_rfl) (by kernel_rfl) (by kernel_rfl) rfl rfl (by kernel_rfl) (by kernel_rfl) (by kernel_rfl) (fun _ _ _ h => h) (Or.inl ⟨by rfl, ?_⟩) (by assumption) ?_
          rotate_left
          · (intro w hSw; (try dsimp only at hSw); go_simp; (try rw [if_neg (by omega)]); (try (with_reducible rfl)))
          simp only [Act.put, List.setIfInBounds_toArray, List.set_cons_zero, List.set_cons_succ]
          refine take_F (i := 12) (d := some 252) (v := .bool false) (by kernel_rfl) (by kernel_rfl) rfl rfl (by kernel_rfl) (by kernel_rfl) (by kernel_rfl) (fun _ _ _ h => h) (Or.inl ⟨by rfl, ?_⟩) (by assumption) ?_
          · (intro w hSw; (try dsimp only at hSw); go_simp <;> first | omega | (simp; done) | (simp; omega) | (rw [IntWalk.i64_in _ (by omega)]; done) | (rw [IntWalk.i64_in _ (by omega), hji]; done) | (rw [IntWalk.i64_in _ (by omega)]; omega))
          simp only [Act.put, List.setIfInBounds_toArray, List.set_cons_zero, List.set_cons_succ]
          refine take_F (i := 13) (d := some 253) (v := ?_) (by kernel_rfl) (by kernel_rfl) rfl rfl (by kernel_rfl) (by kernel_rfl) (by kernel_rfl) (fun _ _ _ h => h) (Or.inl ⟨by rfl, ?_⟩) (by assumption) ?_
          rotate_left
          · (intro w hSw; (try dsimp only at hSw); go_simp; (try rw [if_neg (by omega)]); (try (with_reducible rfl)))
          simp only [Act.put, List.setIfInBounds_toArray, List.set_cons_zero, List.set_cons_succ]
          refine take_F (i := 14) (d := some 254) (v := ?_) (by kernel_rfl) (by kernel_rfl) rfl rfl (by kernel_rfl) (by kernel_rfl) (by kernel_rfl) (fun _ _ _ h => h) (Or.inl ⟨by rfl, ?_⟩) (by assumption) ?_
          rotate_left
          · (intro w hSw; (try dsimp only at hSw); go_simp; (try rw [if_neg (by omega)]); (try (with_reducible rfl)))
          simp only [Act.put, List.setIfInBounds_toArray, List.set_cons_zero, List.set_cons_succ]
          refine take_F (i := 15) (d := some 255) (v := ?_) (by kernel_rfl) (by kernel_rfl) rfl rfl (by kernel_rfl) (by kernel_rfl) (by kernel_rfl) (fun _ _ _ h => h) (Or.inl ⟨by rfl, ?_⟩) (by assumption) ?_
          rotate_left
          · (intro w hSw; (try dsimp only at hSw); go_simp; (try rw [if_neg (by omega)]); (try (with_reducible rfl)))
          simp only [Act.put, List.setIfInBounds_toArray, List.set_cons_zero, List.set_cons_succ]
          refine take_F (i := 16) (d := some 256) (v := .bool false) (by kernel_rfl) (by kernel_rfl) rfl rfl (by kernel_rfl) (by kernel_rfl) (by kernel_rfl) (fun _ _ _ h => h) (Or.inl ⟨by rfl, ?_⟩) (by assumption) ?_
          · (intro w hSw; (try dsimp only at hSw); go_simp <;> first | omega | (simp; done) | (simp; omega) | (rw [IntWalk.i64_in _ (by omega)]; done) | (rw [IntWalk.i64_in _ (by omega), hji]; done) | (rw [IntWalk.i64_in _ (by omega)]; omega))
          simp only [Act.put, List.setIfInBounds_toArray, List.set_cons_zero, List.set_cons_succ]
          refine take_F (i := 17) (d := some 257) (v := ?_) (by kernel_rfl) (by kernel_rfl) rfl rfl (by kernel_rfl) (by kernel_rfl) (by kernel_rfl) (fun _ _ _ h => h) (Or.inl ⟨by rfl, ?_⟩) (by assumption) ?_
          rotate_left
          · (intro w hSw; (try dsimp only at hSw); go_simp; (try rw [if_neg (by omega)]); (try (with_reducible rfl)))
          simp only [Act.put, List.setIfInBounds_toArray, List.set_cons_zero, List.set_cons_succ]
          refine take_F (i := 18) (d := some 258) (v := undef) (by kernel_rfl) (by kernel_rfl) rfl rfl (by kernel_rfl) (by kernel_rfl) (by kernel_rfl) (fun _ _ _ h => h) (Or.inr ⟨by rfl, rfl⟩) (by assumption) ?_
          simp only [Act.put, List.setIfInBounds_toArray, List.set_cons_zero, List.set_cons_succ]
          refine take_F (i := 19) (d := some 259) (v := undef) (by kernel_rfl) (by kernel_rfl) rfl rfl (by kernel_rfl) (by kernel_rfl) (by kernel_rfl) (fun _ _ _ h => h) (Or.inr ⟨by rfl, rfl⟩) (by assumption) ?_
          simp only [Act.put, List.setIfInBounds_toArray, List.set_cons_zero, List.set_cons_succ]
          refine take_F (i := 20) (d := some 260) (v := undef) (by kernel_rfl) (by kernel_rfl) rfl rfl (by kernel_rfl) (by kernel_rfl) (by kernel_rfl) (fun _ _ _ h => h) (Or.inr ⟨by rfl, rfl⟩) (by assumption) ?_
          simp only [Act.put, List.setIfInBounds_toArray, List.set_cons_zero, List.set_cons_succ]
          refine take_F (i := 21) (d := some 261) (v := undef) (by kernel_rfl) (by kernel_rfl) rfl rfl (by kernel_rfl) (by kernel_rfl) (by kernel_rfl) (fun _ _ _ h => h) (Or.inr ⟨by rfl, rfl⟩) (by assumption) ?_
          simp only [Act.put, List.setIfInBounds_toArray, List.set_cons_zero, List.set_cons_succ]
          refine take_F (i := 22) (d := some 262) (v := undef) (by kernel_rfl) (by kernel_rfl) rfl rfl (by kernel_rfl) (by kernel_rfl) (by kernel_rfl) (fun _ _ _ h => h) (Or.inr ⟨by rfl, rfl⟩) (by assumption) ?_
          simp only [Act.put, List.setIfInBounds_toArray, List.set_cons_zero, List.set_cons_succ]
          refine take_F (i := 23) (d := some 263) (v := undef) (by kernel_rfl) (by kernel_rfl) rfl rfl (by kernel_rfl) (by kernel_rfl) (by kernel_rfl) (fun _ _ _ h => h) (Or.inr ⟨by rfl, rfl⟩) (by assumption) ?_
          simp only [Act.put, List.setIfInBounds_toArray, List.set_cons_zero, List.set_cons_succ]
          refine take_F (i := 24) (d := some 264) (v := undef) (by kernel_rfl) (by kernel_rfl) rfl rfl (by kernel_rfl) (by kernel_rfl) (by kernel_rfl) (fun _ _ _ h => h) (Or.inr ⟨by rfl, rfl⟩) (by assumption) ?_
          simp only [Act.put, List.setIfInBounds_toArray, List.set_cons_zero, List.set_cons_succ]
          refine take_F (i := 25) (d := some 265) (v := undef) (by kernel_rfl) (by kernel_rfl) rfl rfl (by kernel_rfl) (by kernel_rfl) (by kernel_rfl) (fun _ _ _ h => h) (Or.inr ⟨by rfl, rfl⟩) (by assumption) ?_
          simp only [Act.put, List.setIfInBounds_toArray, List.set_cons_zero, List.set_cons_succ]
          refine take_F (i := 26) (d := some 266) (v := undef) (by kernel_rfl) (by kernel_rfl) rfl rfl (by kernel_rfl) (by kernel_rfl) (by kernel_rfl) (fun _ _ _ h => h) (Or.inr ⟨by rfl, rfl⟩) (by assumption) ?_
          simp only [Act.put, List.setIfInBounds_toArray, List.set_cons_zero, List.set_cons_succ]
          refine take_F (i := 27) (d := some 267) (v := undef) (by kernel_rfl) (by kernel_rfl) rfl rfl (by kernel_rfl) (by kernel_rfl) (by kernel_rfl) (fun _ _ _ h => h) (Or.inr ⟨by rfl, rfl⟩) (by assumption) ?_
          simp only [Act.put, List.setIfInBounds_toArray, List.set_cons_zero, List.set_cons_succ]
          refine take_F (i := 28) (d := some 268) (v := ?_) (by kernel_rfl) (by kernel_rfl) rfl rfl (by kernel_rfl) (by kernel_rfl) (by kernel_rfl) (fun _ _ _ h => h) (Or.inl ⟨by rfl, ?_⟩) (by assumption) ?_
          rotate_left
          · (intro w hSw; (try dsimp only at hSw); go_simp; (try rw [if_neg (by omega)]); (try (with_reducible rfl)))
          simp only [Act.put, List.setIfInBounds_toArray, List.set_cons_zero, List.set_cons_succ]
          refine take_F (i := 29) (d := some 269) (v := ?_) (by kernel_rfl) (by kernel_rfl) rfl rfl (by kernel_rfl) (by kernel_rfl) (by kernel_rfl) (fun _ _ _ h => h) (Or.inl ⟨by rfl, ?_⟩) (by assumption) ?_
          rotate_left
          · (intro w hSw; (try dsimp only at hSw); go_simp; (try rw [if_neg (by omega)]); (try (with_reducible rfl)))
          simp only [Act.put, List.setIfInBounds_toArray, List.set_cons_zero, List.set_cons_succ]
          refine done_L (by kernel_rfl) ?_ _
          refine NoPanic.normal ?_
          (try go_wp2_with fail)
          go_roundw
          case rel => exact ⟨1, by omega, by go_num, by first | exact HBL.out | exact HBL.out.drew | exact below_drewN HBL.out _⟩
          case measure => simp [intOf]; omega
        · obtain ⟨i, hi⟩ : ∃ i : Nat, j = i + 1 := ⟨j - 1, by omega⟩
          have hci := hcc i (by omega)
          have z3 : TF i < TF j := by have := HG2.out i (by omega); rw [← hi] at this; exact this
          have hji : (j : Int) - 1 = (i : Int) := by omega
          have hjp : (0 : Int) < (j : Int) := by omega
          have hjp2 : 0 < j := by omega
          clear hcc hbl
          generalize TF j = z at *
          generalize TF i = y at *
          have n1 : ¬ z < 1 := by omega
          have n2 : ¬ t18 < z := by omega
          have n3 : ¬ z ≤ y := by omega
          have hil : i < N := by omega
          have hil' : (i : Int) < (N : Int) := by omega
          clear hi hj0
          go_wp2_with fail
          refine wp_region_noPanic ?_
          refine wp_region_L [] (fun w' => w'.cell? ⟨bb, oo + j, none⟩ = some (.int .i64 z) ∧ w'.cell? ⟨bb, oo + i, none⟩ = some (.int .i64 y) ∧ w'.cell? ⟨q18, 2, none⟩ = some (.int .i64 t18)) (by kernel_rfl) (⟨hcj, hci, p2⟩) (fun hHeld => ?_)
          refine take_F (i := 0) (d := some 240) (v := ?_) (by kernel_rfl) (by kernel_rfl) rfl rfl (by kernel_rfl) (by kernel_rfl) (by kernel_rfl) (fun _ _ _ h => h) (Or.inl ⟨by rfl, ?_⟩) (by assumption) ?_
          rotate_left
          · (intro w hSw; (try dsimp only at hSw); go_simp; (try rw [if_neg (by omega)]); (try (with_reducible rfl)))
          simp only [Act.put, List.setIfInBounds_toArray, List.set_cons_zero, List.set_cons_succ]
          refine take_F (i := 1) (d := some 241) (v := ?_) (by kernel_rfl) (by kernel_rfl) rfl rfl (by kernel_rfl) (by kernel_rfl) (by kernel_rfl) (fun _ _ _ h => h) (Or.inl ⟨by rfl, ?_⟩) (by assumption) ?_
          rotate_left
          · (intro w hSw; (try dsimp only at hSw); go_simp; (try rw [if_neg (by omega)]); (try (with_reducible rfl)))
          simp only [Act.put, List.setIfInBounds_toArray, List.set_cons_zero, List.set_cons_succ]
          refine take_F (i := 2) (d := some 242) (v := ?_) (by kernel_rfl) (by kernel_rfl) rfl rfl (by kernel_rfl) (by kernel_rfl) (by kernel_rfl) (fun _ _ _ h => h) (Or.inl ⟨by rfl, ?_⟩) (by assumption) ?_
          rotate_left
          · (intro w hSw; (try dsimp only at hSw); go_simp; (try rw [if_neg (by omega)]); (try (with_reducible rfl)))
          simp only [Act.put, List.setIfInBounds_toArray, List.set_cons_zero, List.set_cons_succ]
          refine take_L [14,5,4,3] (i := 3) (d := some 243) (v := ?_) (by kernel_rfl) (by kernel_rfl) (by kernel_rfl) (by kernel_rfl) rfl rfl (by kernel_rfl) (by kernel_rfl) (by kernel_rfl) (fun _ _ _ h => h) (Or.inl ⟨by rfl, ?_⟩) (by assumption) ?_
          rotate_left
          · (intro w hSw; (try dsimp only at hSw); go_simp; (try rw [if_neg (by omega)]); (try (with_reducible rfl)))
          simp only [Act.put, List.setIfInBounds_toArray, List.set_cons_zero, List.set_cons_succ]
          refine take_F (i := 4) (d := some 244) (v := .bool false) (by kernel_rfl) (by kernel_rfl) rfl rfl (by kernel_rfl) (by kernel_rfl) (by kernel_rfl) (fun _ _ _ h => h) (Or.inl ⟨by rfl, ?_⟩) (by assumption) ?_
          · (intro w hSw; (try dsimp only at hSw); go_simp <;> first | omega | (simp; done) | (simp; omega) | (rw [IntWalk.i64_in _ (by omega)]; done) | (rw [IntWalk.i64_in _ (by omega), hji]; done) | (rw [IntWalk.i64_in _ (by omega)]; omega))
          simp only [Act.put, List.setIfInBounds_toArray, List.set_cons_zero, List.set_cons_succ]
          refine take_F (i := 5) (d := some 245) (v := ?_) (by kernel_rfl) (by kernel_rfl) rfl rfl (by kernel_rfl) (by kernel_rfl) (by kernel_rfl) (fun _ _ _ h => h) (Or.inl ⟨by rfl, ?_⟩) (by assumption) ?_
          rotate_left
          · (intro w hSw; (try dsimp only at hSw); go_simp; (try rw [if_neg (by omega)]); (try (with_reducible rfl)))
          simp only [Act.put, List.setIfInBounds_toArray, List.set_cons_zero, List.set_cons_succ]
          refine take_F (i := 6) (d := some 246) (v := ?_) (by kernel_rfl) (by kernel_rfl) rfl rfl (by kernel_rfl) (by kernel_rfl) (by kernel_rfl) (fun _ _ _ h => h) (Or.inl ⟨by rfl, ?_⟩) (by assumption) ?_
          rotate_left
          · (intro w hSw; (try dsimp only at hSw); go_simp; (try rw [if_neg (by omega)]); (try (with_reducible rfl)))
          simp only [Act.put, List.setIfInBounds_toArray, List.set_cons_zero, List.set_cons_succ]
          refine take_F (i := 7) (d := some 247) (v := ?_) (by kernel_rfl) (by kernel_rfl) rfl rfl (by kernel_rfl) (by kernel_rfl) (by kernel_rfl) (fun _ _ _ h => h) (Or.inl ⟨by rfl, ?_⟩) (by assumption) ?_
          rotate_left
          · (intro w hSw; (try dsimp only at hSw); go_simp; (try rw [if_neg (by omega)]); (try (with_reducible rfl)))
          simp only [Act.put, List.setIfInBounds_toArray, List.set_cons_zero, List.set_cons_succ]
          refine take_F (i := 8) (d := some 248) (v := ?_) (by kernel_rfl) (by kernel_rfl) rfl rfl (by kernel_rfl) (by kernel_rfl) (by kernel_rfl) (fun _ _ _ h => h) (Or.inl ⟨by rfl, ?_⟩) (by assumption) ?_
          rotate_left
          · (intro w hSw; (try dsimp only at hSw); go_simp; (try rw [if_neg (by omega)]); (try (with_reducible rfl)))
          simp only [Act.put, List.setIfInBounds_toArray, List.set_cons_zero, List.set_cons_succ]
          refine take_L [14,13,12,9] (i := 9) (d := some 249) (v := ?_) (by kernel_rfl) (by kernel_rfl) (by kernel_rfl) (by kernel_rfl) rfl rfl (by kernel_rfl) (by kernel_rfl) (by kernel_rfl) (fun _ _ _ h => h) (Or.inl ⟨by rfl, ?_⟩) (by assumption) ?_
          rotate_left
          · (intro w hSw; (try dsimp only at hSw); go_simp; (try rw [if_neg (by omega)]); (try (with_reducible rfl)))
          simp only [Act.put, List.setIfInBounds_toArray, List.set_cons_zero, List.set_cons_succ]
          refine take_F (i := 10) (d := some 250) (v := ?_) (by kernel_rfl) (by kernel_rfl) rfl rfl (by kernel_rfl) (by kernel_rfl) (by kernel_rfl) (fun _ _ _ h => h) (Or.inl ⟨by rfl, ?_⟩) (by assumption) ?_
          rotate_left
          · (intro w hSw; (try dsimp only at hSw); go_simp; (try rw [if_neg (by omega)]); (try (with_reducible rfl)))
          simp only [Act.put, List.setIfInBounds_toArray, List.set_cons_zero, List.set_cons_succ]
          refine take_L [14,13,12,11] (i := 11) (d := some 251) (v := ?_) (by kernel_rfl) (by kernel_rfl) (by kernel_rfl) (by kernel_rfl) rfl rfl (by kernel_rfl) (by kernel_rfl) (by kernel_rfl) (fun _ _ _ h => h) (Or.inl ⟨by rfl, ?_⟩) (by assumption) ?_
          rotate_left
          · (intro w hSw; (try dsimp only at hSw); go_simp; (try rw [if_neg (by omega)]); (try (with_reducible rfl)))
          simp only [Act.put, List.setIfInBounds_toArray, List.set_cons_zero, List.set_cons_succ]
          refine take_F (i := 12) (d := some 252) (v := .bool false) (by kernel_rfl) (by kernel_rfl) rfl rfl (by kernel_rfl) (by kernel_rfl) (by kernel_rfl) (fun _ _ _ h => h) (Or.inl ⟨by rfl, ?_⟩) (by assumption) ?_
          · (intro w hSw; (try dsimp only at hSw); go_simp <;> first | omega | (simp; done) | (simp; omega) | (rw [IntWalk.i64_in _ (by omega)]; done) | (rw [IntWalk.i64_in _ (by omega), hji]; done) | (rw [IntWalk.i64_in _ (by omega)]; omega))
          simp only [Act.put, List.setIfInBounds_toArray, List.set_cons_zero, List.set_cons_succ]
          refine take_F (i := 13) (d := some 253) (v := ?_) (by kernel_rfl) (by kernel_rfl) rfl rfl (by kernel_rfl) (by kernel_rfl) (by kernel_rfl) (fun _ _ _ h => h) (Or.inl ⟨by rfl, ?_⟩) (by assumption) ?_
          rotate_left
          · (intro w hSw; (try dsimp only at hSw); go_simp; (try rw [if_neg (by omega)]); (try (with_reducible rfl)))
          simp only [Act.put, List.setIfInBounds_toArray, List.set_cons_zero, List.set_cons_succ]
          refine take_F (i := 14) (d := some 254) (v := ?_) (by kernel_rfl) (by kernel_rfl) rfl rfl (by kernel_rfl) (by kernel_rfl) (by kernel_rfl) (fun _ _ _ h => h) (Or.inl ⟨by rfl, ?_⟩) (by assumption) ?_
          rotate_left
          · (intro w hSw; (try dsimp only at hSw); go_simp; (try rw [if_neg (by omega)]); (try (with_reducible rfl)))
          simp only [Act.put, List.setIfInBounds_toArray, List.set_cons_zero, List.set_cons_succ]
          refine take_F (i := 15) (d := some 255) (v := ?_) (by kernel_rfl) (by kernel_rfl) rfl rfl (by kernel_rfl) (by kernel_rfl) (by kernel_rfl) (fun _ _ _ h => h) (Or.inl ⟨by rfl, ?_⟩) (by assumption) ?_
          rotate_left
          · (intro w hSw; (try dsimp only at hSw); go_simp; (try rw [if_neg (by omega)]); (try (with_reducible rfl)))
          simp only [Act.put, List.setIfInBounds_toArray, List.set_cons_zero, List.set_cons_succ]
          refine take_F (i := 16) (d := some 256) (v := .bool true) (by kernel_rfl) (by kernel_rfl) rfl rfl (by kernel_rfl) (by kernel_rfl) (by kernel_rfl) (fun _ _ _ h => h) (Or.inl ⟨by rfl, ?_⟩) (by assumption) ?_
          · (intro w hSw; (try dsimp only at hSw); go_simp <;> first | omega | (simp; done) | (simp; omega) | (rw [IntWalk.i64_in _ (by omega)]; done) | (rw [IntWalk.i64_in _ (by omega), hji]; done) | (rw [IntWalk.i64_in _ (by omega)]; omega))
          simp only [Act.put, List.setIfInBounds_toArray, List.set_cons_zero, List.set_cons_succ]
          refine take_F (i := 17) (d := some 257) (v := ?_) (by kernel_rfl) (by kernel_rfl) rfl rfl (by kernel_rfl) (by kernel_rfl) (by kernel_rfl) (fun _ _ _ h => h) (Or.inl ⟨by rfl, ?_⟩) (by assumption) ?_
          rotate_left
          · (intro w hSw; (try dsimp only at hSw); go_simp; (try rw [if_neg (by omega)]); (try (with_reducible rfl)))
          simp only [Act.put, List.setIfInBounds_toArray, List.set_cons_zero, List.set_cons_succ]
          refine take_F (i := 18) (d := some 258) (v := ?_) (by kernel_rfl) (by kernel_rfl) rfl rfl (by kernel_rfl) (by kernel_rfl) (by kernel_rfl) (fun _ _ _ h => h) (Or.inl ⟨by rfl, ?_⟩) (by assumption) ?_
          rotate_left
          · (intro w hSw; (try dsimp only at hSw); go_simp; (try rw [if_neg (by omega)]); (try (with_reducible rfl)))
          simp only [Act.put, List.setIfInBounds_toArray, List.set_cons_zero, List.set_cons_succ]
          refine take_F (i := 19) (d := some 259) (v := ?_) (by kernel_rfl) (by kernel_rfl) rfl rfl (by kernel_rfl) (by kernel_rfl) (by kernel_rfl) (fun _ _ _ h => h) (Or.inl ⟨by rfl, ?_⟩) (by assumption) ?_
          rotate_left
          · (intro w hSw; (try dsimp only at hSw); go_simp; (try rw [if_neg (by omega)]); (try (with_reducible rfl)))
          simp only [Act.put, List.setIfInBounds_toArray, List.set_cons_zero, List.set_cons_succ]
          refine take_F (i := 20) (d := some 260) (v := .int .i64 (i : Int)) (by kernel_rfl) (by kernel_rfl) rfl rfl (by kernel_rfl) (by kernel_rfl) (by kernel_rfl) (fun _ _ _ h => h) (Or.inl ⟨by rfl, ?_⟩) (by assumption) ?_
          · (intro w hSw; (try dsimp only at hSw); go_simp <;> first | omega | (simp; done) | (simp; omega) | (rw [IntWalk.i64_in _ (by omega)]; done) | (rw [IntWalk.i64_in _ (by omega), hji]; done) | (rw [IntWalk.i64_in _ (by omega)]; omega))
          simp only [Act.put, List.setIfInBounds_toArray, List.set_cons_zero, List.set_cons_succ]
          refine take_F (i := 21) (d := some 261) (v := ?_) (by kernel_rfl) (by kernel_rfl) rfl rfl (by kernel_rfl) (by kernel_rfl) (by kernel_rfl) (fun _ _ _ h => h) (Or.inl ⟨by rfl, ?_⟩) (by assumption) ?_
          rotate_left
          · (intro w hSw; (try dsimp only at hSw); go_simp; (try rw [if_neg (by omega)]); (try (with_reducible rfl)))
          simp only [Act.put, List.setIfInBounds_toArray, List.set_cons_zero, List.set_cons_succ]
          refine take_L [28,27,22] (i := 22) (d := some 262) (v := ?_) (by kernel_rfl) (by kernel_rfl) (by kernel_rfl) (by kernel_rfl) rfl rfl (by kernel_rfl) (by kernel_rfl) (by kernel_rfl) (fun _ _ _ h => h) (Or.inl ⟨by rfl, ?_⟩) (by assumption) ?_
          rotate_left
          · (intro w hSw; (try dsimp only at hSw); go_simp; (try rw [if_neg (by omega)]); (try (with_reducible rfl)))
          simp only [Act.put, List.setIfInBounds_toArray, List.set_cons_zero, List.set_cons_succ]
          refine take_F (i := 23) (d := some 263) (v := ?_) (by kernel_rfl) (by kernel_rfl) rfl rfl (by kernel_rfl) (by kernel_rfl) (by kernel_rfl) (fun _ _ _ h => h) (Or.inl ⟨by rfl, ?_⟩) (by assumption) ?_
          rotate_left
          · (intro w hSw; (try dsimp only at hSw); go_simp; (try rw [if_neg (by omega)]); (try (with_reducible rfl)))
          simp only [Act.put, List.setIfInBounds_toArray, List.set_cons_zero, List.set_cons_succ]
          refine take_F (i := 24) (d := some 264) (v := ?_) (by kernel_rfl) (by kernel_rfl) rfl rfl (by kernel_rfl) (by kernel_rfl) (by kernel_rfl) (fun _ _ _ h => h) (Or.inl ⟨by rfl, ?_⟩) (by assumption) ?_
          rotate_left
          · (intro w hSw; (try dsimp only at hSw); go_simp; (try rw [if_neg (by omega)]); (try (with_reducible rfl)))
          simp only [Act.put, List.setIfInBounds_toArray, List.set_cons_zero, List.set_cons_succ]
          refine take_F (i := 25) (d := some 265) (v := ?_) (by kernel_rfl) (by kernel_rfl) rfl rfl (by kernel_rfl) (by kernel_rfl) (by kernel_rfl) (fun _ _ _ h => h) (Or.inl ⟨by rfl, ?_⟩) (by assumption) ?_
          rotate_left
          · (intro w hSw; (try dsimp only at hSw); go_simp; (try rw [if_neg (by omega)]); (try (with_reducible rfl)))
          simp only [Act.put, List.setIfInBounds_toArray, List.set_cons_zero, List.set_cons_succ]
          refine take_L [28,27,26] (i := 26) (d := some 266) (v := ?_) (by kernel_rfl) (by kernel_rfl) (by kernel_rfl) (by kernel_rfl) rfl rfl (by kernel_rfl) (by kernel_rfl) (by kernel_rfl) (fun _ _ _ h => h) (Or.inl ⟨by rfl, ?_⟩) (by assumption) ?_
          rotate_left
          · (intro w hSw; (try dsimp only at hSw); go_simp; (try rw [if_neg (by omega)]); (try (with_reducible rfl)))
          simp only [Act.put, List.setIfInBounds_toArray, List.set_cons_zero, List.set_cons_succ]
          refine take_F (i := 27) (d := some 267) (v := .bool false) (by kernel_rfl) (by kernel_rfl) rfl rfl (by kernel_rfl) (by kernel_rfl) (by kernel_rfl) (fun _ _ _ h => h) (Or.inl ⟨by rfl, ?_⟩) (by assumption) ?_
          · (intro w hSw; (try dsimp only at hSw); go_simp <;> first | omega | (simp; done) | (simp; omega) | (rw [IntWalk.i64_in _ (by omega)]; done) | (rw [IntWalk.i64_in _ (by omega), hji]; done) | (rw [IntWalk.i64_in _ (by omega)]; omega))
          simp only [Act.put, List.setIfInBounds_toArray, List.set_cons_zero, List.set_cons_succ]
          refine take_F (i := 28) (d := some 268) (v := ?_) (by kernel_rfl) (by kernel_rfl) rfl rfl (by kernel_rfl) (by kernel_rfl) (by kernel_rfl) (fun _ _ _ h => h) (Or.inl ⟨by rfl, ?_⟩) (by assumption) ?_
          rotate_left
          · (intro w hSw; (try dsimp only at hSw); go_simp; (try rw [if_neg (by omega)]); (try (with_reducible rfl)))
          simp only [Act.put, List.setIfInBounds_toArray, List.set_cons_zero, List.set_cons_succ]
          refine take_F (i := 29) (d := some 269) (v := ?_) (by kernel_rfl) (by kernel_rfl) rfl rfl (by kernel_rfl) (by kernel_rfl) (by kernel_rfl) (fun _ _ _ h => h) (Or.inl ⟨by rfl, ?_⟩) (by assumption) ?_
          rotate_left
          · (intro w hSw; (try dsimp only at hSw); go_simp; (try rw [if_neg (by omega)]); (try (with_reducible rfl)))
          simp only [Act.put, List.setIfInBounds_toArray, List.set_cons_zero, List.set_cons_succ]
          refine done_L (by kernel_rfl) ?_ _
          refine NoPanic.normal ?_
          (try go_wp2_with fail)
          go_roundw
          case rel => exact ⟨j + 1, by omega, by go_num, by first | exact HBL.out | exact HBL.out.drew | exact below_drewN HBL.out _⟩
          case measure => simp [intOf]; omega
      · have hjn : j = N := by omega
        subst hjn
        have hlt' : ¬ (j : Int) < (j : Int) := by omega
        have HQ3' := Lib.hid (blkI HQ3.out hbl); clear HQ3; have HQ3 := HQ3'; clear HQ3'
        have HB' := Lib.hid (HB.out.trans (hbl.mono HB.out.size)); clear HB; have HB := HB'; clear HB'
        clear HRY HBL R20 HQ18 HG1 HG2 hbl hlt hj
        by_cases hbc : BC = 0
        · subst hbc
          obtain ⟨e1, e2, e3, e4, e5⟩ := HBT.out rfl
          subst e1
          subst e2
          subst e3
          clear HBT
          have e6 : SV1 ≤ SV2 := by omega
          have hwr : IntKind.i64.wrap (SV2 - SV1) = SV2 - SV1 := IntWalk.i64_in _ (by omega)
          obtain ⟨p0, p1, p2, p3⟩ := four_at HQ3.out
          go_wp2_with fail
          refine (HY1.out _).mono ?_; rintro e wn ⟨rfl, hb⟩
          have HQ3' := Lib.hid (blkI HQ3.out hb); clear HQ3; have HQ3 := HQ3'; clear HQ3'
          have HB' := Lib.hid (HB.out.trans (hb.mono HB.out.size)); clear HB; have HB := HB'; clear HB'
          clear hb HY1
          clear p0 p1 p2 p3
          obtain ⟨p0, p1, p2, p3⟩ := four_at HQ3.out
          go_wp2_with fail
          refine (HY2.out _).mono ?_; rintro e wn ⟨rfl, hb⟩
          have HQ3' := Lib.hid (blkI HQ3.out hb); clear HQ3; have HQ3 := HQ3'; clear HQ3'
          have HB' := Lib.hid (HB.out.trans (hb.mono HB.out.size)); clear HB; have HB := HB'; clear HB'
          clear hb HY2
          clear p0 p1 p2 p3
          go_wp2_with fail
          go_ret
          exact ⟨rfl, HB.out⟩
        · have hbc' : (BC == 0) = false := by rw [beq_eq_false_iff_ne]; exact hbc
          clear hbc HBT
          go_wp2_with fail
          go_ret
          exact ⟨rfl, HB.out⟩
  · have hz' : (C18 == 0) = false := by rw [beq_eq_false_iff_ne]; exact hz
    clear hz HZL HZB HZ1 HZ2 R20 HQ18
    by_cases hbc : BC = 0
    · subst hbc
      obtain ⟨e1, e2, e3, e4, e5⟩ := HBT.out rfl
      subst e1
      subst e2
      subst e3
      clear HBT
      have e6 : SV1 ≤ SV2 := by omega
      have hwr : IntKind.i64.wrap (SV2 - SV1) = SV2 - SV1 := IntWalk.i64_in _ (by omega)
      obtain ⟨p0, p1, p2, p3⟩ := four_at HQ3.out
      go_wp2_with fail
      refine (HY1.out _).mono ?_; rintro e wn ⟨rfl, hb⟩
      have HQ3' := Lib.hid (blkI HQ3.out hb); clear HQ3; have HQ3 := HQ3'; clear HQ3'
      have HB' := Lib.hid (HB.out.trans (hb.mono HB.out.size)); clear HB; have HB := HB'; clear HB'
      clear hb HY1
      clear p0 p1 p2 p3
      obtain ⟨p0, p1, p2, p3⟩ := four_at HQ3.out
      go_wp2_with fail
      refine (HY2.out _).mono ?_; rintro e wn ⟨rfl, hb⟩
      have HQ3' := Lib.hid (blkI HQ3.out hb); clear HQ3; have HQ3 := HQ3'; clear HQ3'
      have HB' := Lib.hid (HB.out.trans (hb.mono HB.out.size)); clear HB; have HB := HB'; clear HB'
      clear hb HY2
      clear p0 p1 p2 p3
      go_wp2_with fail
      go_ret
      exact ⟨rfl, HB.out⟩
    · have hbc' : (BC == 0) = false := by rw [beq_eq_false_iff_ne]; exact hbc
      clear hbc HBT
      go_wp2_with fail
      go_ret
      exact ⟨rfl, HB.out⟩
end Go.Proofs.Ytdabcpmieiiapaa
