/- Merged texts: Ab27. -/
import Derived.Test.YthemffbkkhaaoaaGLawAbaci6
import Derived.Test.YthemffbkkhaaoaaGLawAbaci7
/- The law FnAbaci: the walk. -/
namespace Go.Proofs.Ythemffbkkhaaoaa
open Go.RowKit Go.Joins
theorem rdNA {w w' : World} {v : Value} {n sz : Nat} {cs : List Value} (h : Rd w w.heap.size v n sz cs) (hb : Below w.heap.size w w') : Rd w' w'.heap.size v n sz cs := (h.below hb).more hb.size
/-- a block of four cells -/
structure Q4 (w : World) (q : Nat) (a b c d : Value) : Prop where
  lt : q < w.heap.size
  c : cell4 w q a b c d
theorem Q4.below {w w' : World} {q : Nat} {a b c d : Value} (h : Q4 w q a b c d) (hb : Below w.heap.size w w') : Q4 w' q a b c d :=
  ⟨Nat.lt_of_lt_of_le h.lt hb.size, (hb.cell (p := ⟨q, 0, none⟩) h.lt).trans h.c.1, (hb.cell (p := ⟨q, 1, none⟩) h.lt).trans h.c.2.1, (hb.cell (p := ⟨q, 2, none⟩) h.lt).trans h.c.2.2.1, (hb.cell (p := ⟨q, 3, none⟩) h.lt).trans h.c.2.2.2⟩
theorem mkQ4 (w : World) (u l n : Int) (v : Value) : Q4 (w.alloc (.cells #[.int .i64 u, .int .i64 l, .int .i64 n, v] 52)) w.heap.size (.int .i64 u) (.int .i64 l) (.int .i64 n) v :=
  ⟨by simp, four_at (heap_alloc_new w (.cells #[.int .i64 u, .int .i64 l, .int .i64 n, v] 52))⟩
theorem Q4.of {w : World} {q : Nat} {u l n : Int} {v : Value} {t : TypeId} (h : w.heap[q]? = some (.cells #[.int .i64 u, .int .i64 l, .int .i64 n, v] t (0, 0))) : Q4 w q (.int .i64 u) (.int .i64 l) (.int .i64 n) v := ⟨blk_ltN h, four_at h⟩
theorem sameAb_self (a : Ab) : sameAb a a = true := by unfold sameAb sameB; simp
theorem SameAbS_self (B : Nat) (u l w : Int) (v v' : Value) (rs : List (Int × Int)) (W : World) (hr : Rd W B v rs.length 2 (rodsC rs)) (hr' : Rd W B v' rs.length 2 (rodsC rs)) (hB : B ≤ W.heap.size) (hm : rs.length ≤ 1048576) : Calls Try.prog 45 #[aggAb u l w v, aggAb u l w v'] W fun e w'' => e = .returned (.bool true) ∧ Below W.heap.size W w'' := by
  have := SameAbS_any B u l w u l w v v' rs rs W hr hr' hB hm hm
  rwa [sameAb_self] at this
theorem plainA_len (a : Ab) (v : Int) : (plainA a v).1.rods.length ≤ a.rods.length := by
  unfold plainA
  split
  · show (plainRs a.u a.w a.rods.length v).length ≤ _
    rw [plainRs_len]; exact Nat.le_refl _
  · exact Nat.zero_le _
theorem setA_len (a : Ab) (v : Int) : (setA a v).1.rods.length ≤ a.rods.length := by
  unfold setA
  split
  · split
    · exact plainA_len a v
    · exact Nat.zero_le _
  · exact Nat.zero_le _
theorem plA_len (a : Ab) : (plA a).1.rods.length ≤ a.rods.length := by
  unfold plA
  split
  · exact plainA_len a _
  · exact Nat.zero_le _
theorem picA_len (a : Ab) : (picA a).length ≤ 100 := by
  unfold picA
  by_cases h : okAb a = true
  · rw [if_pos h, List.length_map, List.length_range]
    have := kind_bd (okAb_and h).1
    omega
  · rw [if_neg h]; simp
set_option maxRecDepth 100000 in
set_option maxHeartbeats 25600000 in
theorem walkFnAbaci {W : World} (v : Value) (bs : List UInt8) (h : Rd W W.heap.size v bs.length 1 (bs.map byV)) (_hl : bs.length ≤ maxLen) :
    Calls Try.prog 4 #[v] W fun e w' => e = .returned (.bool true) ∧ Below W.heap.size W w' := by
  have HB := Lib.hid (Below.refl W.heap.size W)
  have HC := Lib.hid h
  have HG := Lib.hid (f6big_D _ _ v _ W h)
  obtain ⟨_, A0, c0, rfl, _⟩ := h
  by_cases hbig : 4096 < bs.length
  · rw [decide_eq_true hbig] at HG
    clear hbig
    go_enter Try.func4, Try.ntmps4
    go_wp2_with fail
    refine HG.out.mono ?_; rintro e w1 ⟨rfl, rfl⟩
    go_wp2_with fail
    go_ret
    exact ⟨rfl, HB.out⟩
  rw [decide_eq_false hbig] at HG
  clear hbig
  go_enter Try.func4, Try.ntmps4
  go_wp2_with fail
  refine HG.out.mono ?_; rintro e w1 ⟨rfl, rfl⟩
  clear HG
  go_wp2_with fail
  refine (drawSA_any _ _ bs _ (HC.out.below HB.out) HB.out.size).mono ?_; rintro e wn ⟨⟨u3, l3, w3, rs3⟩, v3, x4, rfl, hl3, hr3, hb⟩
  have R30 := Lib.hid (hr3)
  have HB' := Lib.hid (HB.out.trans (hb.mono HB.out.size)); clear HB; have HB := HB'; clear HB'
  have R3 := R30; clear R30
  obtain ⟨_, A3, c3, rfl, _⟩ := hr3
  clear hb
  dsimp only at hl3
  have HSI := Lib.hid (fun wx hx => SetAbI_any wx.heap.size u3 l3 w3 x4 (.slice A3 rs3.length c3) rs3 wx hx (Nat.le_refl _) (by omega))
  have HSS := Lib.hid (fun wx hx => SetAbS_any wx.heap.size u3 l3 w3 x4 (.slice A3 rs3.length c3) rs3 wx hx (Nat.le_refl _) (by omega))
  have HVI := Lib.hid (fun B wx hx hz => ValidAbI_any B u3 l3 w3 (.slice A3 rs3.length c3) rs3 wx hx hz (by omega))
  have HVS := Lib.hid (fun B wx hx hz => ValidAbS_any B u3 l3 w3 (.slice A3 rs3.length c3) rs3 wx hx hz (by omega))
  have HZS := Lib.hid (fun h => setA_ok (a := ⟨u3, l3, w3, rs3⟩) (v := x4) h)
  have hl5 := setA_len ⟨u3, l3, w3, rs3⟩ x4
  generalize setA ⟨u3, l3, w3, rs3⟩ x4 = S at *
  generalize okAb ⟨u3, l3, w3, rs3⟩ = OK3 at *
  obtain ⟨⟨u5, l5, w5, rs5⟩, C6⟩ := S
  dsimp only at hl5 HZS hl3
  unfold RetAb at HSI HSS
  dsimp only at HSI HSS
  go_upto_region 4 with (fail)
  have hbw := (Below.refl wn.heap.size wn).alloc (Nat.le_refl _) (.cells #[.int .i64 u3, .int .i64 l3, .int .i64 w3, .slice A3 rs3.length c3] 52)
  have HQ30 := Lib.hid (mkQ4 wn u3 l3 w3 (.slice A3 rs3.length c3))
  have R3' := Lib.hid (rdNA R3.out hbw)
  clear R3; have R3 := R3'; clear R3'
  have HB' := Lib.hid (HB.out.trans (hbw.mono HB.out.size)); clear HB; have HB := HB'; clear HB'
  have HQ3 := HQ30; clear HQ30
  clear hbw
  generalize hq3 : wn.heap.size = q3 at *
  generalize wn.alloc (.cells #[.int .i64 u3, .int .i64 l3, .int .i64 w3, .slice A3 rs3.length c3] 52) = wq at *
  clear hq3
  obtain ⟨p0, p1, p2, p3⟩ := HQ3.out.c
  go_wp2_with fail
  refine (HSI.out _ R3.out).mono ?_; rintro e wn ⟨v5, rfl, ho, hb⟩
  have R50 := Lib.hid (Rd.of_own ho)
  have R3' := Lib.hid (rdNA R3.out hb)
  clear R3; have R3 := R3'; clear R3'
  have HQ3' := Lib.hid (HQ3.out.below hb); clear HQ3; have HQ3 := HQ3'; clear HQ3'
  have HB' := Lib.hid (HB.out.trans (hb.mono HB.out.size)); clear HB; have HB := HB'; clear HB'
  have R5 := R50; clear R50
  obtain ⟨A5, c5, rfl⟩ := own_sl ho
  clear ho hb HSI
  clear p0 p1 p2 p3
  go_upto_region 5 with (fail)
  have hbw := (Below.refl wn.heap.size wn).alloc (Nat.le_refl _) (.cells #[.int .i64 u5, .int .i64 l5, .int .i64 w5, .slice A5 rs5.length c5] 52)
  have HQ50 := Lib.hid (mkQ4 wn u5 l5 w5 (.slice A5 rs5.length c5))
  have R3' := Lib.hid (rdNA R3.out hbw)
  have R5' := Lib.hid (rdNA R5.out hbw)
  clear R3; have R3 := R3'; clear R3'
  clear R5; have R5 := R5'; clear R5'
  have HQ3' := Lib.hid (HQ3.out.below hbw); clear HQ3; have HQ3 := HQ3'; clear HQ3'
  have HB' := Lib.hid (HB.out.trans (hbw.mono HB.out.size)); clear HB; have HB := HB'; clear HB'
  have HQ5 := HQ50; clear HQ50
  clear hbw
  generalize hq5 : wn.heap.size = q5 at *
  generalize wn.alloc (.cells #[.int .i64 u5, .int .i64 l5, .int .i64 w5, .slice A5 rs5.length c5] 52) = wq at *
  clear hq5
  obtain ⟨p0, p1, p2, p3⟩ := HQ3.out.c
  go_wp2_with fail
  refine (HSS.out _ R3.out).mono ?_; rintro e wn ⟨v7, rfl, ho, hb⟩
  have R70 := Lib.hid (Rd.of_own ho)
  have R3' := Lib.hid (rdNA R3.out hb)
  have R5' := Lib.hid (rdNA R5.out hb)
  clear R3; have R3 := R3'; clear R3'
  clear R5; have R5 := R5'; clear R5'
  have HQ3' := Lib.hid (HQ3.out.below hb); clear HQ3; have HQ3 := HQ3'; clear HQ3'
  have HQ5' := Lib.hid (HQ5.out.below hb); clear HQ5; have HQ5 := HQ5'; clear HQ5'
  have HB' := Lib.hid (HB.out.trans (hb.mono HB.out.size)); clear HB; have HB := HB'; clear HB'
  have R7 := R70; clear R70
  obtain ⟨A7, c7, rfl⟩ := own_sl ho
  clear ho hb HSS
  clear p0 p1 p2 p3
  go_upto_region 6 with (fail)
  have hbw := (Below.refl wn.heap.size wn).alloc (Nat.le_refl _) (.cells #[.int .i64 u5, .int .i64 l5, .int .i64 w5, .slice A7 rs5.length c7] 52)
  have HQ70 := Lib.hid (mkQ4 wn u5 l5 w5 (.slice A7 rs5.length c7))
  have R3' := Lib.hid (rdNA R3.out hbw)
  have R5' := Lib.hid (rdNA R5.out hbw)
  have R7' := Lib.hid (rdNA R7.out hbw)
  clear R3; have R3 := R3'; clear R3'
  clear R5; have R5 := R5'; clear R5'
  clear R7; have R7 := R7'; clear R7'
  have HQ3' := Lib.hid (HQ3.out.below hbw); clear HQ3; have HQ3 := HQ3'; clear HQ3'
  have HQ5' := Lib.hid (HQ5.out.below hbw); clear HQ5; have HQ5 := HQ5'; clear HQ5'
  have HB' := Lib.hid (HB.out.trans (hbw.mono HB.out.size)); clear HB; have HB := HB'; clear HB'
  have HQ7 := HQ70; clear HQ70
  clear hbw
  generalize hq7 : wn.heap.size = q7 at *
  generalize wn.alloc (.cells #[.int .i64 u5, .int .i64 l5, .int .i64 w5, .slice A7 rs5.length c7] 52) = wq at *
  clear hq7
  go_wp2_with fail
  refine (drawPA_any _ _ bs _ (HC.out.below HB.out) HB.out.size).mono ?_; rintro e wn ⟨⟨u9, l9, w9, rs9⟩, v9, rfl, hl9, hr9, hb⟩
  have R90 := Lib.hid (hr9)
  have R3' := Lib.hid (rdNA R3.out hb)
  have R5' := Lib.hid (rdNA R5.out hb)
  have R7' := Lib.hid (rdNA R7.out hb)
  clear R3; have R3 := R3'; clear R3'
  clear R5; have R5 := R5'; clear R5'
  clear R7; have R7 := R7'; clear R7'
  have HQ3' := Lib.hid (HQ3.out.below hb); clear HQ3; have HQ3 := HQ3'; clear HQ3'
  have HQ5' := Lib.hid (HQ5.out.below hb); clear HQ5; have HQ5 := HQ5'; clear HQ5'
  have HQ7' := Lib.hid (HQ7.out.below hb); clear HQ7; have HQ7 := HQ7'; clear HQ7'
  have HB' := Lib.hid (HB.out.trans (hb.mono HB.out.size)); clear HB; have HB := HB'; clear HB'
  have R9 := R90; clear R90
  obtain ⟨_, A9, c9, rfl, _⟩ := hr9
  clear hb
  dsimp only at hl9
  have HPI := Lib.hid (fun wx hx => PlainAbI_any wx.heap.size u9 l9 w9 (.slice A9 rs9.length c9) rs9 wx hx (Nat.le_refl _) (by omega))
  have HPS := Lib.hid (fun wx hx => PlainAbS_any wx.heap.size u9 l9 w9 (.slice A9 rs9.length c9) rs9 wx hx (Nat.le_refl _) (by omega))
  have HJI := Lib.hid (fun B wx hx hz => IsPlainI_any B u9 l9 w9 (.slice A9 rs9.length c9) rs9 wx hx hz (by omega))
  have HJS := Lib.hid (fun B wx hx hz => IsPlainS_any B u9 l9 w9 (.slice A9 rs9.length c9) rs9 wx hx hz (by omega))
  have HNP := Lib.hid (fun wx hx => AbValueI_any wx.heap.size u9 l9 w9 (.slice A9 rs9.length c9) rs9 wx hx (Nat.le_refl _) (by omega))
  have HZP := Lib.hid (fun h => plA_ok (a := ⟨u9, l9, w9, rs9⟩) h)
  have hl10 := plA_len ⟨u9, l9, w9, rs9⟩
  generalize plA ⟨u9, l9, w9, rs9⟩ = S2 at *
  generalize isPl ⟨u9, l9, w9, rs9⟩ = IP9 at *
  generalize vlV ⟨u9, l9, w9, rs9⟩ = VV9 at *
  generalize vlC ⟨u9, l9, w9, rs9⟩ = VC9 at *
  obtain ⟨⟨u10, l10, w10, rs10⟩, C11⟩ := S2
  dsimp only at hl10 HZP hl9
  unfold RetAb at HPI HPS
  dsimp only at HPI HPS
  go_upto_region 7 with (fail)
  have hbw := (Below.refl wn.heap.size wn).alloc (Nat.le_refl _) (.cells #[.int .i64 u9, .int .i64 l9, .int .i64 w9, .slice A9 rs9.length c9] 52)
  have HQ90 := Lib.hid (mkQ4 wn u9 l9 w9 (.slice A9 rs9.length c9))
  have R3' := Lib.hid (rdNA R3.out hbw)
  have R5' := Lib.hid (rdNA R5.out hbw)
  have R7' := Lib.hid (rdNA R7.out hbw)
  have R9' := Lib.hid (rdNA R9.out hbw)
  clear R3; have R3 := R3'; clear R3'
  clear R5; have R5 := R5'; clear R5'
  clear R7; have R7 := R7'; clear R7'
  clear R9; have R9 := R9'; clear R9'
  have HQ3' := Lib.hid (HQ3.out.below hbw); clear HQ3; have HQ3 := HQ3'; clear HQ3'
  have HQ5' := Lib.hid (HQ5.out.below hbw); clear HQ5; have HQ5 := HQ5'; clear HQ5'
  have HQ7' := Lib.hid (HQ7.out.below hbw); clear HQ7; have HQ7 := HQ7'; clear HQ7'
  have HB' := Lib.hid (HB.out.trans (hbw.mono HB.out.size)); clear HB; have HB := HB'; clear HB'
  have HQ9 := HQ90; clear HQ90
  clear hbw
  generalize hq9 : wn.heap.size = q9 at *
  generalize wn.alloc (.cells #[.int .i64 u9, .int .i64 l9, .int .i64 w9, .slice A9 rs9.length c9] 52) = wq at *
  clear hq9
  obtain ⟨p0, p1, p2, p3⟩ := HQ9.out.c
  go_wp2_with fail
  refine (HPI.out _ R9.out).mono ?_; rintro e wn ⟨v10, rfl, ho, hb⟩
  have R100 := Lib.hid (Rd.of_own ho)
  have R3' := Lib.hid (rdNA R3.out hb)
  have R5' := Lib.hid (rdNA R5.out hb)
  have R7' := Lib.hid (rdNA R7.out hb)
  have R9' := Lib.hid (rdNA R9.out hb)
  clear R3; have R3 := R3'; clear R3'
  clear R5; have R5 := R5'; clear R5'
  clear R7; have R7 := R7'; clear R7'
  clear R9; have R9 := R9'; clear R9'
  have HQ3' := Lib.hid (HQ3.out.below hb); clear HQ3; have HQ3 := HQ3'; clear HQ3'
  have HQ5' := Lib.hid (HQ5.out.below hb); clear HQ5; have HQ5 := HQ5'; clear HQ5'
  have HQ7' := Lib.hid (HQ7.out.below hb); clear HQ7; have HQ7 := HQ7'; clear HQ7'
  have HQ9' := Lib.hid (HQ9.out.below hb); clear HQ9; have HQ9 := HQ9'; clear HQ9'
  have HB' := Lib.hid (HB.out.trans (hb.mono HB.out.size)); clear HB; have HB := HB'; clear HB'
  have R10 := R100; clear R100
  obtain ⟨A10, c10, rfl⟩ := own_sl ho
  clear ho hb HPI
  clear p0 p1 p2 p3
  go_upto_region 8 with (fail)
  have hbw := (Below.refl wn.heap.size wn).alloc (Nat.le_refl _) (.cells #[.int .i64 u10, .int .i64 l10, .int .i64 w10, .slice A10 rs10.length c10] 52)
  have HQ100 := Lib.hid (mkQ4 wn u10 l10 w10 (.slice A10 rs10.length c10))
  have R3' := Lib.hid (rdNA R3.out hbw)
  have R5' := Lib.hid (rdNA R5.out hbw)
  have R7' := Lib.hid (rdNA R7.out hbw)
  have R9' := Lib.hid (rdNA R9.out hbw)
  have R10' := Lib.hid (rdNA R10.out hbw)
  clear R3; have R3 := R3'; clear R3'
  clear R5; have R5 := R5'; clear R5'
  clear R7; have R7 := R7'; clear R7'
  clear R9; have R9 := R9'; clear R9'
  clear R10; have R10 := R10'; clear R10'
  have HQ3' := Lib.hid (HQ3.out.below hbw); clear HQ3; have HQ3 := HQ3'; clear HQ3'
  have HQ5' := Lib.hid (HQ5.out.below hbw); clear HQ5; have HQ5 := HQ5'; clear HQ5'
  have HQ7' := Lib.hid (HQ7.out.below hbw); clear HQ7; have HQ7 := HQ7'; clear HQ7'
  have HQ9' := Lib.hid (HQ9.out.below hbw); clear HQ9; have HQ9 := HQ9'; clear HQ9'
  have HB' := Lib.hid (HB.out.trans (hbw.mono HB.out.size)); clear HB; have HB := HB'; clear HB'
  have HQ10 := HQ100; clear HQ100
  clear hbw
  generalize hq10 : wn.heap.size = q10 at *
  generalize wn.alloc (.cells #[.int .i64 u10, .int .i64 l10, .int .i64 w10, .slice A10 rs10.length c10] 52) = wq at *
  clear hq10
  obtain ⟨p0, p1, p2, p3⟩ := HQ9.out.c
  go_wp2_with fail
  refine (HPS.out _ R9.out).mono ?_; rintro e wn ⟨v12, rfl, ho, hb⟩
  have R120 := Lib.hid (Rd.of_own ho)
  have R3' := Lib.hid (rdNA R3.out hb)
  have R5' := Lib.hid (rdNA R5.out hb)
  have R7' := Lib.hid (rdNA R7.out hb)
  have R9' := Lib.hid (rdNA R9.out hb)
  have R10' := Lib.hid (rdNA R10.out hb)
  clear R3; have R3 := R3'; clear R3'
  clear R5; have R5 := R5'; clear R5'
  clear R7; have R7 := R7'; clear R7'
  clear R9; have R9 := R9'; clear R9'
  clear R10; have R10 := R10'; clear R10'
  have HQ3' := Lib.hid (HQ3.out.below hb); clear HQ3; have HQ3 := HQ3'; clear HQ3'
  have HQ5' := Lib.hid (HQ5.out.below hb); clear HQ5; have HQ5 := HQ5'; clear HQ5'
  have HQ7' := Lib.hid (HQ7.out.below hb); clear HQ7; have HQ7 := HQ7'; clear HQ7'
  have HQ9' := Lib.hid (HQ9.out.below hb); clear HQ9; have HQ9 := HQ9'; clear HQ9'
  have HQ10' := Lib.hid (HQ10.out.below hb); clear HQ10; have HQ10 := HQ10'; clear HQ10'
  have HB' := Lib.hid (HB.out.trans (hb.mono HB.out.size)); clear HB; have HB := HB'; clear HB'
  have R12 := R120; clear R120
  obtain ⟨A12, c12, rfl⟩ := own_sl ho
  clear ho hb HPS
  clear p0 p1 p2 p3
  go_upto_region 9 with (fail)
  have hbw := (Below.refl wn.heap.size wn).alloc (Nat.le_refl _) (.cells #[.int .i64 u10, .int .i64 l10, .int .i64 w10, .slice A12 rs10.length c12] 52)
  have HQ120 := Lib.hid (mkQ4 wn u10 l10 w10 (.slice A12 rs10.length c12))
  have R3' := Lib.hid (rdNA R3.out hbw)
  have R5' := Lib.hid (rdNA R5.out hbw)
  have R7' := Lib.hid (rdNA R7.out hbw)
  have R9' := Lib.hid (rdNA R9.out hbw)
  have R10' := Lib.hid (rdNA R10.out hbw)
  have R12' := Lib.hid (rdNA R12.out hbw)
  clear R3; have R3 := R3'; clear R3'
  clear R5; have R5 := R5'; clear R5'
  clear R7; have R7 := R7'; clear R7'
  clear R9; have R9 := R9'; clear R9'
  clear R10; have R10 := R10'; clear R10'
  clear R12; have R12 := R12'; clear R12'
  have HQ3' := Lib.hid (HQ3.out.below hbw); clear HQ3; have HQ3 := HQ3'; clear HQ3'
  have HQ5' := Lib.hid (HQ5.out.below hbw); clear HQ5; have HQ5 := HQ5'; clear HQ5'
  have HQ7' := Lib.hid (HQ7.out.below hbw); clear HQ7; have HQ7 := HQ7'; clear HQ7'
  have HQ9' := Lib.hid (HQ9.out.below hbw); clear HQ9; have HQ9 := HQ9'; clear HQ9'
  have HQ10' := Lib.hid (HQ10.out.below hbw); clear HQ10; have HQ10 := HQ10'; clear HQ10'
  have HB' := Lib.hid (HB.out.trans (hbw.mono HB.out.size)); clear HB; have HB := HB'; clear HB'
  have HQ12 := HQ120; clear HQ120
  clear hbw
  generalize hq12 : wn.heap.size = q12 at *
  generalize wn.alloc (.cells #[.int .i64 u10, .int .i64 l10, .int .i64 w10, .slice A12 rs10.length c12] 52) = wq at *
  clear hq12
  go_wp2_with fail
  refine (drawAV_any _ _ bs _ (HC.out.below HB.out) HB.out.size).mono ?_; rintro e wn ⟨⟨u14, l14, w14, rs14⟩, v14, rfl, hl14, hr14, hb⟩
  have R140 := Lib.hid (hr14)
  have R3' := Lib.hid (rdNA R3.out hb)
  have R5' := Lib.hid (rdNA R5.out hb)
  have R7' := Lib.hid (rdNA R7.out hb)
  have R9' := Lib.hid (rdNA R9.out hb)
  have R10' := Lib.hid (rdNA R10.out hb)
  have R12' := Lib.hid (rdNA R12.out hb)
  clear R3; have R3 := R3'; clear R3'
  clear R5; have R5 := R5'; clear R5'
  clear R7; have R7 := R7'; clear R7'
  clear R9; have R9 := R9'; clear R9'
  clear R10; have R10 := R10'; clear R10'
  clear R12; have R12 := R12'; clear R12'
  have HQ3' := Lib.hid (HQ3.out.below hb); clear HQ3; have HQ3 := HQ3'; clear HQ3'
  have HQ5' := Lib.hid (HQ5.out.below hb); clear HQ5; have HQ5 := HQ5'; clear HQ5'
  have HQ7' := Lib.hid (HQ7.out.below hb); clear HQ7; have HQ7 := HQ7'; clear HQ7'
  have HQ9' := Lib.hid (HQ9.out.below hb); clear HQ9; have HQ9 := HQ9'; clear HQ9'
  have HQ10' := Lib.hid (HQ10.out.below hb); clear HQ10; have HQ10 := HQ10'; clear HQ10'
  have HQ12' := Lib.hid (HQ12.out.below hb); clear HQ12; have HQ12 := HQ12'; clear HQ12'
  have HB' := Lib.hid (HB.out.trans (hb.mono HB.out.size)); clear HB; have HB := HB'; clear HB'
  have R14 := R140; clear R140
  obtain ⟨_, A14, c14, rfl, _⟩ := hr14
  clear hb
  dsimp only at hl14
  have HNI := Lib.hid (fun wx hx => AbValueI_any wx.heap.size u14 l14 w14 (.slice A14 rs14.length c14) rs14 wx hx (Nat.le_refl _) (by omega))
  have HNS := Lib.hid (fun wx hx => AbValueS_any wx.heap.size u14 l14 w14 (.slice A14 rs14.length c14) rs14 wx hx (Nat.le_refl _) (by omega))
  generalize vlV ⟨u14, l14, w14, rs14⟩ = VV14 at *
  generalize vlC ⟨u14, l14, w14, rs14⟩ = VC14 at *
  go_upto_region 10 with (fail)
  have hbw := (Below.refl wn.heap.size wn).alloc (Nat.le_refl _) (.cells #[.int .i64 u14, .int .i64 l14, .int .i64 w14, .slice A14 rs14.length c14] 52)
  have HQ140 := Lib.hid (mkQ4 wn u14 l14 w14 (.slice A14 rs14.length c14))
  have R3' := Lib.hid (rdNA R3.out hbw)
  have R5' := Lib.hid (rdNA R5.out hbw)
  have R7' := Lib.hid (rdNA R7.out hbw)
  have R9' := Lib.hid (rdNA R9.out hbw)
  have R10' := Lib.hid (rdNA R10.out hbw)
  have R12' := Lib.hid (rdNA R12.out hbw)
  have R14' := Lib.hid (rdNA R14.out hbw)
  clear R3; have R3 := R3'; clear R3'
  clear R5; have R5 := R5'; clear R5'
  clear R7; have R7 := R7'; clear R7'
  clear R9; have R9 := R9'; clear R9'
  clear R10; have R10 := R10'; clear R10'
  clear R12; have R12 := R12'; clear R12'
  clear R14; have R14 := R14'; clear R14'
  have HQ3' := Lib.hid (HQ3.out.below hbw); clear HQ3; have HQ3 := HQ3'; clear HQ3'
  have HQ5' := Lib.hid (HQ5.out.below hbw); clear HQ5; have HQ5 := HQ5'; clear HQ5'
  have HQ7' := Lib.hid (HQ7.out.below hbw); clear HQ7; have HQ7 := HQ7'; clear HQ7'
  have HQ9' := Lib.hid (HQ9.out.below hbw); clear HQ9; have HQ9 := HQ9'; clear HQ9'
  have HQ10' := Lib.hid (HQ10.out.below hbw); clear HQ10; have HQ10 := HQ10'; clear HQ10'
  have HQ12' := Lib.hid (HQ12.out.below hbw); clear HQ12; have HQ12 := HQ12'; clear HQ12'
  have HB' := Lib.hid (HB.out.trans (hbw.mono HB.out.size)); clear HB; have HB := HB'; clear HB'
  have HQ14 := HQ140; clear HQ140
  clear hbw
  generalize hq14 : wn.heap.size = q14 at *
  generalize wn.alloc (.cells #[.int .i64 u14, .int .i64 l14, .int .i64 w14, .slice A14 rs14.length c14] 52) = wq at *
  clear hq14
  obtain ⟨p0, p1, p2, p3⟩ := HQ14.out.c
  go_wp2_with fail
  refine (HNI.out _ R14.out).mono ?_; rintro e wn ⟨rfl, hb⟩
  have R3' := Lib.hid (rdNA R3.out hb)
  have R5' := Lib.hid (rdNA R5.out hb)
  have R7' := Lib.hid (rdNA R7.out hb)
  have R9' := Lib.hid (rdNA R9.out hb)
  have R10' := Lib.hid (rdNA R10.out hb)
  have R12' := Lib.hid (rdNA R12.out hb)
  have R14' := Lib.hid (rdNA R14.out hb)
  clear R3; have R3 := R3'; clear R3'
  clear R5; have R5 := R5'; clear R5'
  clear R7; have R7 := R7'; clear R7'
  clear R9; have R9 := R9'; clear R9'
  clear R10; have R10 := R10'; clear R10'
  clear R12; have R12 := R12'; clear R12'
  clear R14; have R14 := R14'; clear R14'
  have HQ3' := Lib.hid (HQ3.out.below hb); clear HQ3; have HQ3 := HQ3'; clear HQ3'
  have HQ5' := Lib.hid (HQ5.out.below hb); clear HQ5; have HQ5 := HQ5'; clear HQ5'
  have HQ7' := Lib.hid (HQ7.out.below hb); clear HQ7; have HQ7 := HQ7'; clear HQ7'
  have HQ9' := Lib.hid (HQ9.out.below hb); clear HQ9; have HQ9 := HQ9'; clear HQ9'
  have HQ10' := Lib.hid (HQ10.out.below hb); clear HQ10; have HQ10 := HQ10'; clear HQ10'
  have HQ12' := Lib.hid (HQ12.out.below hb); clear HQ12; have HQ12 := HQ12'; clear HQ12'
  have HQ14' := Lib.hid (HQ14.out.below hb); clear HQ14; have HQ14 := HQ14'; clear HQ14'
  have HB' := Lib.hid (HB.out.trans (hb.mono HB.out.size)); clear HB; have HB := HB'; clear HB'
  clear hb HNI
  clear p0 p1 p2 p3
  obtain ⟨p0, p1, p2, p3⟩ := HQ14.out.c
  go_wp2_with fail
  refine (HNS.out _ R14.out).mono ?_; rintro e wn ⟨rfl, hb⟩
  have R3' := Lib.hid (rdNA R3.out hb)
  have R5' := Lib.hid (rdNA R5.out hb)
  have R7' := Lib.hid (rdNA R7.out hb)
  have R9' := Lib.hid (rdNA R9.out hb)
  have R10' := Lib.hid (rdNA R10.out hb)
  have R12' := Lib.hid (rdNA R12.out hb)
  have R14' := Lib.hid (rdNA R14.out hb)
  clear R3; have R3 := R3'; clear R3'
  clear R5; have R5 := R5'; clear R5'
  clear R7; have R7 := R7'; clear R7'
  clear R9; have R9 := R9'; clear R9'
  clear R10; have R10 := R10'; clear R10'
  clear R12; have R12 := R12'; clear R12'
  clear R14; have R14 := R14'; clear R14'
  have HQ3' := Lib.hid (HQ3.out.below hb); clear HQ3; have HQ3 := HQ3'; clear HQ3'
  have HQ5' := Lib.hid (HQ5.out.below hb); clear HQ5; have HQ5 := HQ5'; clear HQ5'
  have HQ7' := Lib.hid (HQ7.out.below hb); clear HQ7; have HQ7 := HQ7'; clear HQ7'
  have HQ9' := Lib.hid (HQ9.out.below hb); clear HQ9; have HQ9 := HQ9'; clear HQ9'
  have HQ10' := Lib.hid (HQ10.out.below hb); clear HQ10; have HQ10 := HQ10'; clear HQ10'
  have HQ12' := Lib.hid (HQ12.out.below hb); clear HQ12; have HQ12 := HQ12'; clear HQ12'
  have HQ14' := Lib.hid (HQ14.out.below hb); clear HQ14; have HQ14 := HQ14'; clear HQ14'
  have HB' := Lib.hid (HB.out.trans (hb.mono HB.out.size)); clear HB; have HB := HB'; clear HB'
  clear hb HNS
  clear p0 p1 p2 p3
  clear HQ14
  clear R14
  go_wp2_with fail
  refine (drawAP_any _ _ bs _ (HC.out.below HB.out) HB.out.size).mono ?_; rintro e wn ⟨⟨u19, l19, w19, rs19⟩, v19, rfl, hl19, hr19, hb⟩
  have R190 := Lib.hid (hr19)
  have R3' := Lib.hid (rdNA R3.out hb)
  have R5' := Lib.hid (rdNA R5.out hb)
  have R7' := Lib.hid (rdNA R7.out hb)
  have R9' := Lib.hid (rdNA R9.out hb)
  have R10' := Lib.hid (rdNA R10.out hb)
  have R12' := Lib.hid (rdNA R12.out hb)
  clear R3; have R3 := R3'; clear R3'
  clear R5; have R5 := R5'; clear R5'
  clear R7; have R7 := R7'; clear R7'
  clear R9; have R9 := R9'; clear R9'
  clear R10; have R10 := R10'; clear R10'
  clear R12; have R12 := R12'; clear R12'
  have HQ3' := Lib.hid (HQ3.out.below hb); clear HQ3; have HQ3 := HQ3'; clear HQ3'
  have HQ5' := Lib.hid (HQ5.out.below hb); clear HQ5; have HQ5 := HQ5'; clear HQ5'
  have HQ7' := Lib.hid (HQ7.out.below hb); clear HQ7; have HQ7 := HQ7'; clear HQ7'
  have HQ9' := Lib.hid (HQ9.out.below hb); clear HQ9; have HQ9 := HQ9'; clear HQ9'
  have HQ10' := Lib.hid (HQ10.out.below hb); clear HQ10; have HQ10 := HQ10'; clear HQ10'
  have HQ12' := Lib.hid (HQ12.out.below hb); clear HQ12; have HQ12 := HQ12'; clear HQ12'
  have HB' := Lib.hid (HB.out.trans (hb.mono HB.out.size)); clear HB; have HB := HB'; clear HB'
  have R19 := R190; clear R190
  obtain ⟨_, A19, c19, rfl, _⟩ := hr19
  clear hb
  dsimp only at hl19
  have HLI := Lib.hid (fun wx hx => PicI_any wx.heap.size u19 l19 w19 (.slice A19 rs19.length c19) rs19 wx hx (Nat.le_refl _) (by omega))
  have HLS := Lib.hid (fun wx hx => PicS_any wx.heap.size u19 l19 w19 (.slice A19 rs19.length c19) rs19 wx hx (Nat.le_refl _) (by omega))
  have hP100 := picA_len ⟨u19, l19, w19, rs19⟩
  unfold RetPi at HLI HLS
  generalize picA ⟨u19, l19, w19, rs19⟩ = LD at *
  generalize vlC ⟨u19, l19, w19, rs19⟩ = LC at *
  go_upto_region 13 with (fail)
  have hbw := (Below.refl wn.heap.size wn).alloc (Nat.le_refl _) (.cells #[.int .i64 u19, .int .i64 l19, .int .i64 w19, .slice A19 rs19.length c19] 52)
  have HQ190 := Lib.hid (mkQ4 wn u19 l19 w19 (.slice A19 rs19.length c19))
  have R3' := Lib.hid (rdNA R3.out hbw)
  have R5' := Lib.hid (rdNA R5.out hbw)
  have R7' := Lib.hid (rdNA R7.out hbw)
  have R9' := Lib.hid (rdNA R9.out hbw)
  have R10' := Lib.hid (rdNA R10.out hbw)
  have R12' := Lib.hid (rdNA R12.out hbw)
  have R19' := Lib.hid (rdNA R19.out hbw)
  clear R3; have R3 := R3'; clear R3'
  clear R5; have R5 := R5'; clear R5'
  clear R7; have R7 := R7'; clear R7'
  clear R9; have R9 := R9'; clear R9'
  clear R10; have R10 := R10'; clear R10'
  clear R12; have R12 := R12'; clear R12'
  clear R19; have R19 := R19'; clear R19'
  have HQ3' := Lib.hid (HQ3.out.below hbw); clear HQ3; have HQ3 := HQ3'; clear HQ3'
  have HQ5' := Lib.hid (HQ5.out.below hbw); clear HQ5; have HQ5 := HQ5'; clear HQ5'
  have HQ7' := Lib.hid (HQ7.out.below hbw); clear HQ7; have HQ7 := HQ7'; clear HQ7'
  have HQ9' := Lib.hid (HQ9.out.below hbw); clear HQ9; have HQ9 := HQ9'; clear HQ9'
  have HQ10' := Lib.hid (HQ10.out.below hbw); clear HQ10; have HQ10 := HQ10'; clear HQ10'
  have HQ12' := Lib.hid (HQ12.out.below hbw); clear HQ12; have HQ12 := HQ12'; clear HQ12'
  have HB' := Lib.hid (HB.out.trans (hbw.mono HB.out.size)); clear HB; have HB := HB'; clear HB'
  have HQ19 := HQ190; clear HQ190
  clear hbw
  generalize hq19 : wn.heap.size = q19 at *
  generalize wn.alloc (.cells #[.int .i64 u19, .int .i64 l19, .int .i64 w19, .slice A19 rs19.length c19] 52) = wq at *
  clear hq19
  obtain ⟨p0, p1, p2, p3⟩ := HQ19.out.c
  go_wp2_with fail
  refine (HLI.out _ R19.out).mono ?_; rintro e wn ⟨v20, rfl, ho, hb⟩
  have R200 := Lib.hid (Rd.of_own ho)
  have R3' := Lib.hid (rdNA R3.out hb)
  have R5' := Lib.hid (rdNA R5.out hb)
  have R7' := Lib.hid (rdNA R7.out hb)
  have R9' := Lib.hid (rdNA R9.out hb)
  have R10' := Lib.hid (rdNA R10.out hb)
  have R12' := Lib.hid (rdNA R12.out hb)
  have R19' := Lib.hid (rdNA R19.out hb)
  clear R3; have R3 := R3'; clear R3'
  clear R5; have R5 := R5'; clear R5'
  clear R7; have R7 := R7'; clear R7'
  clear R9; have R9 := R9'; clear R9'
  clear R10; have R10 := R10'; clear R10'
  clear R12; have R12 := R12'; clear R12'
  clear R19; have R19 := R19'; clear R19'
  have HQ3' := Lib.hid (HQ3.out.below hb); clear HQ3; have HQ3 := HQ3'; clear HQ3'
  have HQ5' := Lib.hid (HQ5.out.below hb); clear HQ5; have HQ5 := HQ5'; clear HQ5'
  have HQ7' := Lib.hid (HQ7.out.below hb); clear HQ7; have HQ7 := HQ7'; clear HQ7'
  have HQ9' := Lib.hid (HQ9.out.below hb); clear HQ9; have HQ9 := HQ9'; clear HQ9'
  have HQ10' := Lib.hid (HQ10.out.below hb); clear HQ10; have HQ10 := HQ10'; clear HQ10'
  have HQ12' := Lib.hid (HQ12.out.below hb); clear HQ12; have HQ12 := HQ12'; clear HQ12'
  have HQ19' := Lib.hid (HQ19.out.below hb); clear HQ19; have HQ19 := HQ19'; clear HQ19'
  have HB' := Lib.hid (HB.out.trans (hb.mono HB.out.size)); clear HB; have HB := HB'; clear HB'
  have R20 := R200; clear R200
  obtain ⟨A20, c20, rfl⟩ := own_sl ho
  clear ho hb HLI
  clear p0 p1 p2 p3
  obtain ⟨p0, p1, p2, p3⟩ := HQ19.out.c
  go_wp2_with fail
  refine (HLS.out _ R19.out).mono ?_; rintro e wn ⟨v22, rfl, ho, hb⟩
  have R220 := Lib.hid (Rd.of_own ho)
  have R3' := Lib.hid (rdNA R3.out hb)
  have R5' := Lib.hid (rdNA R5.out hb)
  have R7' := Lib.hid (rdNA R7.out hb)
  have R9' := Lib.hid (rdNA R9.out hb)
  have R10' := Lib.hid (rdNA R10.out hb)
  have R12' := Lib.hid (rdNA R12.out hb)
  have R19' := Lib.hid (rdNA R19.out hb)
  have R20' := Lib.hid (rdNA R20.out hb)
  clear R3; have R3 := R3'; clear R3'
  clear R5; have R5 := R5'; clear R5'
  clear R7; have R7 := R7'; clear R7'
  clear R9; have R9 := R9'; clear R9'
  clear R10; have R10 := R10'; clear R10'
  clear R12; have R12 := R12'; clear R12'
  clear R19; have R19 := R19'; clear R19'
  clear R20; have R20 := R20'; clear R20'
  have HQ3' := Lib.hid (HQ3.out.below hb); clear HQ3; have HQ3 := HQ3'; clear HQ3'
  have HQ5' := Lib.hid (HQ5.out.below hb); clear HQ5; have HQ5 := HQ5'; clear HQ5'
  have HQ7' := Lib.hid (HQ7.out.below hb); clear HQ7; have HQ7 := HQ7'; clear HQ7'
  have HQ9' := Lib.hid (HQ9.out.below hb); clear HQ9; have HQ9 := HQ9'; clear HQ9'
  have HQ10' := Lib.hid (HQ10.out.below hb); clear HQ10; have HQ10 := HQ10'; clear HQ10'
  have HQ12' := Lib.hid (HQ12.out.below hb); clear HQ12; have HQ12 := HQ12'; clear HQ12'
  have HQ19' := Lib.hid (HQ19.out.below hb); clear HQ19; have HQ19 := HQ19'; clear HQ19'
  have HB' := Lib.hid (HB.out.trans (hb.mono HB.out.size)); clear HB; have HB := HB'; clear HB'
  have R22 := R220; clear R220
  obtain ⟨A22, c22, rfl⟩ := own_sl ho
  clear ho hb HLS
  clear p0 p1 p2 p3
  clear HQ19
  clear R19
  go_wp2_with fail
  refine (drawSM_any _ _ bs _ (HC.out.below HB.out) HB.out.size).mono ?_; rintro e wn ⟨⟨u24, l24, w24, rs24⟩, ⟨u25, l25, w25, rs25⟩, v24, v25, rfl, hl24, hl25, hr24, hr25, hb⟩
  have R240 := Lib.hid (hr24)
  have R250 := Lib.hid (hr25)
  have R3' := Lib.hid (rdNA R3.out hb)
  have R5' := Lib.hid (rdNA R5.out hb)
  have R7' := Lib.hid (rdNA R7.out hb)
  have R9' := Lib.hid (rdNA R9.out hb)
  have R10' := Lib.hid (rdNA R10.out hb)
  have R12' := Lib.hid (rdNA R12.out hb)
  have R20' := Lib.hid (rdNA R20.out hb)
  have R22' := Lib.hid (rdNA R22.out hb)
  clear R3; have R3 := R3'; clear R3'
  clear R5; have R5 := R5'; clear R5'
  clear R7; have R7 := R7'; clear R7'
  clear R9; have R9 := R9'; clear R9'
  clear R10; have R10 := R10'; clear R10'
  clear R12; have R12 := R12'; clear R12'
  clear R20; have R20 := R20'; clear R20'
  clear R22; have R22 := R22'; clear R22'
  have HQ3' := Lib.hid (HQ3.out.below hb); clear HQ3; have HQ3 := HQ3'; clear HQ3'
  have HQ5' := Lib.hid (HQ5.out.below hb); clear HQ5; have HQ5 := HQ5'; clear HQ5'
  have HQ7' := Lib.hid (HQ7.out.below hb); clear HQ7; have HQ7 := HQ7'; clear HQ7'
  have HQ9' := Lib.hid (HQ9.out.below hb); clear HQ9; have HQ9 := HQ9'; clear HQ9'
  have HQ10' := Lib.hid (HQ10.out.below hb); clear HQ10; have HQ10 := HQ10'; clear HQ10'
  have HQ12' := Lib.hid (HQ12.out.below hb); clear HQ12; have HQ12 := HQ12'; clear HQ12'
  have HB' := Lib.hid (HB.out.trans (hb.mono HB.out.size)); clear HB; have HB := HB'; clear HB'
  have R24 := R240; clear R240
  have R25 := R250; clear R250
  obtain ⟨_, A24, c24, rfl, _⟩ := hr24
  obtain ⟨_, A25, c25, rfl, _⟩ := hr25
  clear hb HC
  dsimp only at hl24 hl25
  have HMI := Lib.hid (fun B wx hx hy hz => SameAbI_any B u24 l24 w24 u25 l25 w25 (.slice A24 rs24.length c24) (.slice A25 rs25.length c25) rs24 rs25 wx hx hy hz (by omega) (by omega))
  have HMS := Lib.hid (fun B wx hx hy hz => SameAbS_any B u24 l24 w24 u25 l25 w25 (.slice A24 rs24.length c24) (.slice A25 rs25.length c25) rs24 rs25 wx hx hy hz (by omega) (by omega))
  generalize sameAb ⟨u24, l24, w24, rs24⟩ ⟨u25, l25, w25, rs25⟩ = SM at *
  go_upto_region 16 with (fail)
  obtain ⟨t1, t2, hbw0⟩ := two_blocks wn #[.int .i64 u24, .int .i64 l24, .int .i64 w24, .slice A24 rs24.length c24] #[.int .i64 u25, .int .i64 l25, .int .i64 w25, .slice A25 rs25.length c25] 52 52
  have hbw := hbw0; clear hbw0
  have HQ240 := Lib.hid (Q4.of t1)
  have HQ250 := Lib.hid (Q4.of t2)
  clear t1 t2
  have R3' := Lib.hid (rdNA R3.out hbw)
  have R5' := Lib.hid (rdNA R5.out hbw)
  have R7' := Lib.hid (rdNA R7.out hbw)
  have R9' := Lib.hid (rdNA R9.out hbw)
  have R10' := Lib.hid (rdNA R10.out hbw)
  have R12' := Lib.hid (rdNA R12.out hbw)
  have R20' := Lib.hid (rdNA R20.out hbw)
  have R22' := Lib.hid (rdNA R22.out hbw)
  have R24' := Lib.hid (rdNA R24.out hbw)
  have R25' := Lib.hid (rdNA R25.out hbw)
  clear R3; have R3 := R3'; clear R3'
  clear R5; have R5 := R5'; clear R5'
  clear R7; have R7 := R7'; clear R7'
  clear R9; have R9 := R9'; clear R9'
  clear R10; have R10 := R10'; clear R10'
  clear R12; have R12 := R12'; clear R12'
  clear R20; have R20 := R20'; clear R20'
  clear R22; have R22 := R22'; clear R22'
  clear R24; have R24 := R24'; clear R24'
  clear R25; have R25 := R25'; clear R25'
  have HQ3' := Lib.hid (HQ3.out.below hbw); clear HQ3; have HQ3 := HQ3'; clear HQ3'
  have HQ5' := Lib.hid (HQ5.out.below hbw); clear HQ5; have HQ5 := HQ5'; clear HQ5'
  have HQ7' := Lib.hid (HQ7.out.below hbw); clear HQ7; have HQ7 := HQ7'; clear HQ7'
  have HQ9' := Lib.hid (HQ9.out.below hbw); clear HQ9; have HQ9 := HQ9'; clear HQ9'
  have HQ10' := Lib.hid (HQ10.out.below hbw); clear HQ10; have HQ10 := HQ10'; clear HQ10'
  have HQ12' := Lib.hid (HQ12.out.below hbw); clear HQ12; have HQ12 := HQ12'; clear HQ12'
  have HB' := Lib.hid (HB.out.trans (hbw.mono HB.out.size)); clear HB; have HB := HB'; clear HB'
  have HQ24 := HQ240; have HQ25 := HQ250; clear HQ240 HQ250 hbw
  generalize (wn.alloc (.cells #[.int .i64 u24, .int .i64 l24, .int .i64 w24, .slice A24 rs24.length c24] 52)).alloc (.cells #[.int .i64 u25, .int .i64 l25, .int .i64 w25, .slice A25 rs25.length c25] 52) = wm at *
  generalize wn.heap.size = q24 at *
  have hS0 : Q4 wm.drew q3 (.int .i64 u3) (.int .i64 l3) (.int .i64 w3) (.slice A3 rs3.length c3) ∧ Q4 wm.drew q5 (.int .i64 u5) (.int .i64 l5) (.int .i64 w5) (.slice A5 rs5.length c5) ∧ Q4 wm.drew q7 (.int .i64 u5) (.int .i64 l5) (.int .i64 w5) (.slice A7 rs5.length c7) ∧ Q4 wm.drew q9 (.int .i64 u9) (.int .i64 l9) (.int .i64 w9) (.slice A9 rs9.length c9) ∧ Q4 wm.drew q10 (.int .i64 u10) (.int .i64 l10) (.int .i64 w10) (.slice A10 rs10.length c10) ∧ Q4 wm.drew q12 (.int .i64 u10) (.int .i64 l10) (.int .i64 w10) (.slice A12 rs10.length c12) ∧ Q4 wm.drew q24 (.int .i64 u24) (.int .i64 l24) (.int .i64 w24) (.slice A24 rs24.length c24) ∧ Q4 wm.drew (q24 + 1) (.int .i64 u25) (.int .i64 l25) (.int .i64 w25) (.slice A25 rs25.length c25) := ⟨HQ3.out.below (Below.refl wm.heap.size wm).drew, HQ5.out.below (Below.refl wm.heap.size wm).drew, HQ7.out.below (Below.refl wm.heap.size wm).drew, HQ9.out.below (Below.refl wm.heap.size wm).drew, HQ10.out.below (Below.refl wm.heap.size wm).drew, HQ12.out.below (Below.refl wm.heap.size wm).drew, HQ24.out.below (Below.refl wm.heap.size wm).drew, HQ25.out.below (Below.refl wm.heap.size wm).drew⟩
  have hacc := (Below.refl wm.heap.size wm).drew
  refine wp_region_noPanic ?_
  refine wp_region_L [] (fun w' => cell4 w' q3 (.int .i64 u3) (.int .i64 l3) (.int .i64 w3) (.slice A3 rs3.length c3) ∧ cell4 w' q5 (.int .i64 u5) (.int .i64 l5) (.int .i64 w5) (.slice A5 rs5.length c5) ∧ cell4 w' q7 (.int .i64 u5) (.int .i64 l5) (.int .i64 w5) (.slice A7 rs5.length c7) ∧ cell4 w' q9 (.int .i64 u9) (.int .i64 l9) (.int .i64 w9) (.slice A9 rs9.length c9) ∧ cell4 w' q10 (.int .i64 u10) (.int .i64 l10) (.int .i64 w10) (.slice A10 rs10.length c10) ∧ cell4 w' q12 (.int .i64 u10) (.int .i64 l10) (.int .i64 w10) (.slice A12 rs10.length c12) ∧ cell4 w' q24 (.int .i64 u24) (.int .i64 l24) (.int .i64 w24) (.slice A24 rs24.length c24) ∧ cell4 w' (q24 + 1) (.int .i64 u25) (.int .i64 l25) (.int .i64 w25) (.slice A25 rs25.length c25)) (by kernel_rfl) (⟨hS0.1.c, hS0.2.1.c, hS0.2.2.1.c, hS0.2.2.2.1.c, hS0.2.2.2.2.1.c, hS0.2.2.2.2.2.1.c, hS0.2.2.2.2.2.2.1.c, hS0.2.2.2.2.2.2.2.c⟩) (fun hHeld => ?_)
  refine take_F (i := 0) (d := some 92) (v := ?_) (by kernel_rfl) (by kernel_rfl) rfl rfl (by kernel_rfl) (by kernel_rfl) (by kernel_rfl) (fun _ _ _ h => h) (Or.inl ⟨by rfl, ?_⟩) (by assumption) ?_
  rotate_left
  · (intro w hSw; (try dsimp only at hSw); go_simp; (try rw [if_neg (by omega)]); (try (with_reducible rfl)))
  simp only [Act.put, List.setIfInBounds_toArray, List.set_cons_zero, List.set_cons_succ]
  refine take_F (i := 1) (d := some 93) (v := ?_) (by kernel_rfl) (by kernel_rfl) rfl rfl (by kernel_rfl) (by kernel_rfl) (by kernel_rfl) (fun _ _ _ h => h) (Or.inl ⟨by rfl, ?_⟩) (by assumption) ?_
  rotate_left
  · (intro w hSw; (try dsimp only at hSw); go_simp; (try rw [if_neg (by omega)]); (try (with_reducible rfl)))
  simp only [Act.put, List.setIfInBounds_toArray, List.set_cons_zero, List.set_cons_succ]
  refine take_F (i := 2) (d := some 94) (v := ?_) (by kernel_rfl) (by kernel_rfl) rfl rfl (by kernel_rfl) (by kernel_rfl) (by kernel_rfl) (fun _ _ _ h => h) (Or.inl ⟨by rfl, ?_⟩) (by assumption) ?_
  rotate_left
  · (intro w hSw; (try dsimp only at hSw); go_simp; (try rw [if_neg (by omega)]); (try (with_reducible rfl)))
  simp only [Act.put, List.setIfInBounds_toArray, List.set_cons_zero, List.set_cons_succ]
  refine take_F (i := 3) (d := some 95) (v := ?_) (by kernel_rfl) (by kernel_rfl) rfl rfl (by kernel_rfl) (by kernel_rfl) (by kernel_rfl) (fun _ _ _ h => h) (Or.inl ⟨by rfl, ?_⟩) (by assumption) ?_
  rotate_left
  · (intro w hSw; (try dsimp only at hSw); go_simp; (try rw [if_neg (by omega)]); (try (with_reducible rfl)))
  simp only [Act.put, List.setIfInBounds_toArray, List.set_cons_zero, List.set_cons_succ]
  refine take_L [57,56,50,49,41,40,35,30,25,20,19,14,9,6,4] (i := 4) (d := some 96) (v := ?_) (by kernel_rfl) (by kernel_rfl) (by kernel_rfl) (by kernel_rfl) rfl rfl (by kernel_rfl) (by kernel_rfl) (by kernel_rfl) (fun _ _ _ h => h) (Or.inl ⟨by rfl, ?_⟩) (by assumption) ?_
  rotate_left
  · (intro w hSw; (try dsimp only at hSw); go_simp; (try rw [if_neg (by omega)]); (try (with_reducible rfl)))
  simp only [Act.put, List.setIfInBounds_toArray, List.set_cons_zero, List.set_cons_succ]
  refine take_L [57,56,50,49,41,40,35,30,25,20,19,14,9,6,5] (i := 5) (d := some 97) (v := ?_) (by kernel_rfl) (by kernel_rfl) (by kernel_rfl) (by kernel_rfl) rfl rfl (by kernel_rfl) (by kernel_rfl) (by kernel_rfl) (fun _ _ _ h => h) (Or.inl ⟨by rfl, ?_⟩) (by assumption) ?_
  rotate_left
  · (intro w hSw; (try dsimp only at hSw); go_simp; (try rw [if_neg (by omega)]); (try (with_reducible rfl)))
  simp only [Act.put, List.setIfInBounds_toArray, List.set_cons_zero, List.set_cons_succ]
  refine call_L (i := 6) (d := (some 98)) rfl rfl (by kernel_rfl) (fun Kq hKq => ?_)
  go_simp
  go_at_call 45
  refine (SameAbS_self _ u5 l5 w5 (.slice A5 rs5.length c5) (.slice A7 rs5.length c7) rs5 _ (R5.out.below hacc) (R7.out.below hacc) hacc.size (by omega)).mono ?_; rintro e w51 ⟨rfl, hb⟩
  have hS1 : Q4 w51 q3 (.int .i64 u3) (.int .i64 l3) (.int .i64 w3) (.slice A3 rs3.length c3) ∧ Q4 w51 q5 (.int .i64 u5) (.int .i64 l5) (.int .i64 w5) (.slice A5 rs5.length c5) ∧ Q4 w51 q7 (.int .i64 u5) (.int .i64 l5) (.int .i64 w5) (.slice A7 rs5.length c7) ∧ Q4 w51 q9 (.int .i64 u9) (.int .i64 l9) (.int .i64 w9) (.slice A9 rs9.length c9) ∧ Q4 w51 q10 (.int .i64 u10) (.int .i64 l10) (.int .i64 w10) (.slice A10 rs10.length c10) ∧ Q4 w51 q12 (.int .i64 u10) (.int .i64 l10) (.int .i64 w10) (.slice A12 rs10.length c12) ∧ Q4 w51 q24 (.int .i64 u24) (.int .i64 l24) (.int .i64 w24) (.slice A24 rs24.length c24) ∧ Q4 w51 (q24 + 1) (.int .i64 u25) (.int .i64 l25) (.int .i64 w25) (.slice A25 rs25.length c25) := ⟨hS0.1.below hb, hS0.2.1.below hb, hS0.2.2.1.below hb, hS0.2.2.2.1.below hb, hS0.2.2.2.2.1.below hb, hS0.2.2.2.2.2.1.below hb, hS0.2.2.2.2.2.2.1.below hb, hS0.2.2.2.2.2.2.2.below hb⟩
  clear hS0
  have hac2 := hacc.trans (hb.mono hacc.size); clear hacc; have hacc := hac2; clear hac2 hb
  (try go_wp2_with fail)
  refine hKq.out _ _ (⟨hS1.1.c, hS1.2.1.c, hS1.2.2.1.c, hS1.2.2.2.1.c, hS1.2.2.2.2.1.c, hS1.2.2.2.2.2.1.c, hS1.2.2.2.2.2.2.1.c, hS1.2.2.2.2.2.2.2.c⟩) (fun hHeld => ?_)
  clear hKq Kq
  (try simp only [Act.put, List.setIfInBounds_toArray, List.set_cons_zero, List.set_cons_succ])
  refine take_F (i := 7) (d := some 99) (v := ?_) (by kernel_rfl) (by kernel_rfl) rfl rfl (by kernel_rfl) (by kernel_rfl) (by kernel_rfl) (fun _ _ _ h => h) (Or.inl ⟨by rfl, ?_⟩) (by assumption) ?_
  rotate_left
  · (intro w hSw; (try dsimp only at hSw); go_simp; (try rw [if_neg (by omega)]); (try (with_reducible rfl)))
  simp only [Act.put, List.setIfInBounds_toArray, List.set_cons_zero, List.set_cons_succ]
  refine take_F (i := 8) (d := some 100) (v := ?_) (by kernel_rfl) (by kernel_rfl) rfl rfl (by kernel_rfl) (by kernel_rfl) (by kernel_rfl) (fun _ _ _ h => h) (Or.inl ⟨by rfl, ?_⟩) (by assumption) ?_
  rotate_left
  · (intro w hSw; (try dsimp only at hSw); go_simp; (try rw [if_neg (by omega)]); (try (with_reducible rfl)))
  simp only [Act.put, List.setIfInBounds_toArray, List.set_cons_zero, List.set_cons_succ]
  refine take_F (i := 9) (d := some 101) (v := ?_) (by kernel_rfl) (by kernel_rfl) rfl rfl (by kernel_rfl) (by kernel_rfl) (by kernel_rfl) (fun _ _ _ h => h) (Or.inl ⟨by rfl, ?_⟩) (by assumption) ?_
  rotate_left
  · (intro w hSw; (try dsimp only at hSw); go_simp; (try rw [if_neg (by omega)]); (try (with_reducible rfl)))
  simp only [Act.put, List.setIfInBounds_toArray, List.set_cons_zero, List.set_cons_succ]
  refine take_F (i := 10) (d := some 102) (v := ?_) (by kernel_rfl) (by kernel_rfl) rfl rfl (by kernel_rfl) (by kernel_rfl) (by kernel_rfl) (fun _ _ _ h => h) (Or.inl ⟨by rfl, ?_⟩) (by assumption) ?_
  rotate_left
  · (intro w hSw; (try dsimp only at hSw); go_simp; (try rw [if_neg (by omega)]); (try (with_reducible rfl)))
  simp only [Act.put, List.setIfInBounds_toArray, List.set_cons_zero, List.set_cons_succ]
  refine take_F (i := 11) (d := some 103) (v := ?_) (by kernel_rfl) (by kernel_rfl) rfl rfl (by kernel_rfl) (by kernel_rfl) (by kernel_rfl) (fun _ _ _ h => h) (Or.inl ⟨by rfl, ?_⟩) (by assumption) ?_
  rotate_left
  · (intro w hSw; (try dsimp only at hSw); go_simp; (try rw [if_neg (by omega)]); (try (with_reducible rfl)))
  simp only [Act.put, List.setIfInBounds_toArray, List.set_cons_zero, List.set_cons_succ]
  refine take_F (i := 12) (d := some 104) (v := ?_) (by kernel_rfl) (by kernel_rfl) rfl rfl (by kernel_rfl) (by kernel_rfl) (by kernel_rfl) (fun _ _ _ h => h) (Or.inl ⟨by rfl, ?_⟩) (by assumption) ?_
  rotate_left
  · (intro w hSw; (try dsimp only at hSw); go_simp; (try rw [if_neg (by omega)]); (try (with_reducible rfl)))
  simp only [Act.put, List.setIfInBounds_toArray, List.set_cons_zero, List.set_cons_succ]
  refine take_F (i := 13) (d := some 105) (v := ?_) (by kernel_rfl) (by kernel_rfl) rfl rfl (by kernel_rfl) (by kernel_rfl) (by kernel_rfl) (fun _ _ _ h => h) (Or.inl ⟨by rfl, ?_⟩) (by assumption) ?_
  rotate_left
  · (intro w hSw; (try dsimp only at hSw); go_simp; (try rw [if_neg (by omega)]); (try (with_reducible rfl)))
  simp only [Act.put, List.setIfInBounds_toArray, List.set_cons_zero, List.set_cons_succ]
  refine take_F (i := 14) (d := some 106) (v := ?_) (by kernel_rfl) (by kernel_rfl) rfl rfl (by kernel_rfl) (by kernel_rfl) (by kernel_rfl) (fun _ _ _ h => h) (Or.inl ⟨by rfl, ?_⟩) (by assumption) ?_
  rotate_left
  · (intro w hSw; (try dsimp only at hSw); go_simp; (try rw [if_neg (by omega)]); (try (with_reducible rfl)))
  simp only [Act.put, List.setIfInBounds_toArray, List.set_cons_zero, List.set_cons_succ]
  refine take_L [57,56,50,49,41,40,35,30,25,20,17,15] (i := 15) (d := some 107) (v := ?_) (by kernel_rfl) (by kernel_rfl) (by kernel_rfl) (by kernel_rfl) rfl rfl (by kernel_rfl) (by kernel_rfl) (by kernel_rfl) (fun _ _ _ h => h) (Or.inl ⟨by rfl, ?_⟩) (by assumption) ?_
  rotate_left
  · (intro w hSw; (try dsimp only at hSw); go_simp; (try rw [if_neg (by omega)]); (try (with_reducible rfl)))
  simp only [Act.put, List.setIfInBounds_toArray, List.set_cons_zero, List.set_cons_succ]
  refine take_L [57,56,50,49,41,40,35,30,25,20,17,16] (i := 16) (d := some 108) (v := ?_) (by kernel_rfl) (by kernel_rfl) (by kernel_rfl) (by kernel_rfl) rfl rfl (by kernel_rfl) (by kernel_rfl) (by kernel_rfl) (fun _ _ _ h => h) (Or.inl ⟨by rfl, ?_⟩) (by assumption) ?_
  rotate_left
  · (intro w hSw; (try dsimp only at hSw); go_simp; (try rw [if_neg (by omega)]); (try (with_reducible rfl)))
  simp only [Act.put, List.setIfInBounds_toArray, List.set_cons_zero, List.set_cons_succ]
  refine call_L (i := 17) (d := (some 109)) rfl rfl (by kernel_rfl) (fun Kq hKq => ?_)
  go_simp
  go_at_call 45
  refine (SameAbS_self _ u10 l10 w10 (.slice A10 rs10.length c10) (.slice A12 rs10.length c12) rs10 _ (R10.out.below hacc) (R12.out.below hacc) hacc.size (by omega)).mono ?_; rintro e w52 ⟨rfl, hb⟩
  have hS2 : Q4 w52 q3 (.int .i64 u3) (.int .i64 l3) (.int .i64 w3) (.slice A3 rs3.length c3) ∧ Q4 w52 q5 (.int .i64 u5) (.int .i64 l5) (.int .i64 w5) (.slice A5 rs5.length c5) ∧ Q4 w52 q7 (.int .i64 u5) (.int .i64 l5) (.int .i64 w5) (.slice A7 rs5.length c7) ∧ Q4 w52 q9 (.int .i64 u9) (.int .i64 l9) (.int .i64 w9) (.slice A9 rs9.length c9) ∧ Q4 w52 q10 (.int .i64 u10) (.int .i64 l10) (.int .i64 w10) (.slice A10 rs10.length c10) ∧ Q4 w52 q12 (.int .i64 u10) (.int .i64 l10) (.int .i64 w10) (.slice A12 rs10.length c12) ∧ Q4 w52 q24 (.int .i64 u24) (.int .i64 l24) (.int .i64 w24) (.slice A24 rs24.length c24) ∧ Q4 w52 (q24 + 1) (.int .i64 u25) (.int .i64 l25) (.int .i64 w25) (.slice A25 rs25.length c25) := ⟨hS1.1.below hb, hS1.2.1.below hb, hS1.2.2.1.below hb, hS1.2.2.2.1.below hb, hS1.2.2.2.2.1.below hb, hS1.2.2.2.2.2.1.below hb, hS1.2.2.2.2.2.2.1.below hb, hS1.2.2.2.2.2.2.2.below hb⟩
  clear hS1
  have hac2 := hacc.trans (hb.mono hacc.size); clear hacc; have hacc := hac2; clear hac2 hb
  (try go_wp2_with fail)
  refine hKq.out _ _ (⟨hS2.1.c, hS2.2.1.c, hS2.2.2.1.c, hS2.2.2.2.1.c, hS2.2.2.2.2.1.c, hS2.2.2.2.2.2.1.c, hS2.2.2.2.2.2.2.1.c, hS2.2.2.2.2.2.2.2.c⟩) (fun hHeld => ?_)
  clear hKq Kq
  (try simp only [Act.put, List.setIfInBounds_toArray, List.set_cons_zero, List.set_cons_succ])
  refine take_F (i := 18) (d := some 110) (v := ?_) (by kernel_rfl) (by kernel_rfl) rfl rfl (by kernel_rfl) (by kernel_rfl) (by kernel_rfl) (fun _ _ _ h => h) (Or.inl ⟨by rfl, ?_⟩) (by assumption) ?_
  rotate_left
  · (intro w hSw; (try dsimp only at hSw); go_simp; (try rw [if_neg (by omega)]); (try (with_reducible rfl)))
  simp only [Act.put, List.setIfInBounds_toArray, List.set_cons_zero, List.set_cons_succ]
  refine take_F (i := 19) (d := some 111) (v := ?_) (by kernel_rfl) (by kernel_rfl) rfl rfl (by kernel_rfl) (by kernel_rfl) (by kernel_rfl) (fun _ _ _ h => h) (Or.inl ⟨by rfl, ?_⟩) (by assumption) ?_
  rotate_left
  · (intro w hSw; (try dsimp only at hSw); go_simp; (try rw [if_neg (by omega)]); (try (with_reducible rfl)))
  simp only [Act.put, List.setIfInBounds_toArray, List.set_cons_zero, List.set_cons_succ]
  refine take_F (i := 20) (d := some 112) (v := ?_) (by kernel_rfl) (by kernel_rfl) rfl rfl (by kernel_rfl) (by kernel_rfl) (by kernel_rfl) (fun _ _ _ h => h) (Or.inl ⟨by rfl, ?_⟩) (by assumption) ?_
  rotate_left
  · (intro w hSw; (try dsimp only at hSw); go_simp; (try rw [if_neg (by omega)]); (try (with_reducible rfl)))
  simp only [Act.put, List.setIfInBounds_toArray, List.set_cons_zero, List.set_cons_succ]
  refine take_F (i := 21) (d := some 113) (v := ?_) (by kernel_rfl) (by kernel_rfl) rfl rfl (by kernel_rfl) (by kernel_rfl) (by kernel_rfl) (fun _ _ _ h => h) (Or.inl ⟨by rfl, ?_⟩) (by assumption) ?_
  rotate_left
  · (intro w hSw; (try dsimp only at hSw); go_simp; (try rw [if_neg (by omega)]); (try (with_reducible rfl)))
  simp only [Act.put, List.setIfInBounds_toArray, List.set_cons_zero, List.set_cons_succ]
  refine take_F (i := 22) (d := some 114) (v := ?_) (by kernel_rfl) (by kernel_rfl) rfl rfl (by kernel_rfl) (by kernel_rfl) (by kernel_rfl) (fun _ _ _ h => h) (Or.inl ⟨by rfl, ?_⟩) (by assumption) ?_
  rotate_left
  · (intro w hSw; (try dsimp only at hSw); go_simp; (try rw [if_neg (by omega)]); (try (with_reducible rfl)))
  simp only [Act.put, List.setIfInBounds_toArray, List.set_cons_zero, List.set_cons_succ]
  refine take_F (i := 23) (d := some 115) (v := ?_) (by kernel_rfl) (by kernel_rfl) rfl rfl (by kernel_rfl) (by kernel_rfl) (by kernel_rfl) (fun _ _ _ h => h) (Or.inl ⟨by rfl, ?_⟩) (by assumption) ?_
  rotate_left
  · (intro w hSw; (try dsimp only at hSw); go_simp; (try rw [if_neg (by omega)]); (try (with_reducible rfl)))
  simp only [Act.put, List.setIfInBounds_toArray, List.set_cons_zero, List.set_cons_succ]
  refine take_F (i := 24) (d := some 116) (v := ?_) (by kernel_rfl) (by kernel_rfl) rfl rfl (by kernel_rfl) (by kernel_rfl) (by kernel_rfl) (fun _ _ _ h => h) (Or.inl ⟨by rfl, ?_⟩) (by assumption) ?_
  rotate_left
  · (intro w hSw; (try dsimp only at hSw); go_simp; (try rw [if_neg (by omega)]); (try (with_reducible rfl)))
  simp only [Act.put, List.setIfInBounds_toArray, List.set_cons_zero, List.set_cons_succ]
  refine take_F (i := 25) (d := some 117) (v := ?_) (by kernel_rfl) (by kernel_rfl) rfl rfl (by kernel_rfl) (by kernel_rfl) (by kernel_rfl) (fun _ _ _ h => h) (Or.inl ⟨by rfl, ?_⟩) (by assumption) ?_
  rotate_left
  · (intro w hSw; (try dsimp only at hSw); go_simp; (try rw [if_neg (by omega)]); (try (with_reducible rfl)))
  simp only [Act.put, List.setIfInBounds_toArray, List.set_cons_zero, List.set_cons_succ]
  refine take_F (i := 26) (d := some 118) (v := ?_) (by kernel_rfl) (by kernel_rfl) rfl rfl (by kernel_rfl) (by kernel_rfl) (by kernel_rfl) (fun _ _ _ h => h) (Or.inl ⟨by rfl, ?_⟩) (by assumption) ?_
  rotate_left
  · (intro w hSw; (try dsimp only at hSw); go_simp; (try rw [if_neg (by omega)]); (try (with_reducible rfl)))
  simp only [Act.put, List.setIfInBounds_toArray, List.set_cons_zero, List.set_cons_succ]
  refine take_F (i := 27) (d := some 119) (v := ?_) (by kernel_rfl) (by kernel_rfl) rfl rfl (by kernel_rfl) (by kernel_rfl) (by kernel_rfl) (fun _ _ _ h => h) (Or.inl ⟨by rfl, ?_⟩) (by assumption) ?_
  rotate_left
  · (intro w hSw; (try dsimp only at hSw); go_simp; (try rw [if_neg (by omega)]); (try (with_reducible rfl)))
  simp only [Act.put, List.setIfInBounds_toArray, List.set_cons_zero, List.set_cons_succ]
  refine take_F (i := 28) (d := some 120) (v := ?_) (by kernel_rfl) (by kernel_rfl) rfl rfl (by kernel_rfl) (by kernel_rfl) (by kernel_rfl) (fun _ _ _ h => h) (Or.inl ⟨by rfl, ?_⟩) (by assumption) ?_
  rotate_left
  · (intro w hSw; (try dsimp only at hSw); go_simp; (try rw [if_neg (by omega)]); (try (with_reducible rfl)))
  simp only [Act.put, List.setIfInBounds_toArray, List.set_cons_zero, List.set_cons_succ]
  refine take_F (i := 29) (d := some 121) (v := ?_) (by kernel_rfl) (by kernel_rfl) rfl rfl (by kernel_rfl) (by kernel_rfl) (by kernel_rfl) (fun _ _ _ h => h) (Or.inl ⟨by rfl, ?_⟩) (by assumption) ?_
  rotate_left
  · (intro w hSw; (try dsimp only at hSw); go_simp; (try rw [if_neg (by omega)]); (try (with_reducible rfl)))
  simp only [Act.put, List.setIfInBounds_toArray, List.set_cons_zero, List.set_cons_succ]
  refine take_F (i := 30) (d := some 122) (v := ?_) (by kernel_rfl) (by kernel_rfl) rfl rfl (by kernel_rfl) (by kernel_rfl) (by kernel_rfl) (fun _ _ _ h => h) (Or.inl ⟨by rfl, ?_⟩) (by assumption) ?_
  rotate_left
  · (intro w hSw; (try dsimp only at hSw); go_simp; (try rw [if_neg (by omega)]); (try (with_reducible rfl)))
  simp only [Act.put, List.setIfInBounds_toArray, List.set_cons_zero, List.set_cons_succ]
  refine take_F (i := 31) (d := some 123) (v := ?_) (by kernel_rfl) (by kernel_rfl) rfl rfl (by kernel_rfl) (by kernel_rfl) (by kernel_rfl) (fun _ _ _ h => h) (Or.inl ⟨by rfl, ?_⟩) (by assumption) ?_
  rotate_left
  · (intro w hSw; (try dsimp only at hSw); go_simp; (try rw [if_neg (by omega)]); (try (with_reducible rfl)))
  simp only [Act.put, List.setIfInBounds_toArray, List.set_cons_zero, List.set_cons_succ]
  refine take_F (i := 32) (d := some 124) (v := ?_) (by kernel_rfl) (by kernel_rfl) rfl rfl (by kernel_rfl) (by kernel_rfl) (by kernel_rfl) (fun _ _ _ h => h) (Or.inl ⟨by rfl, ?_⟩) (by assumption) ?_
  rotate_left
  · (intro w hSw; (try dsimp only at hSw); go_simp; (try rw [if_neg (by omega)]); (try (with_reducible rfl)))
  simp only [Act.put, List.setIfInBounds_toArray, List.set_cons_zero, List.set_cons_succ]
  refine take_F (i := 33) (d := some 125) (v := ?_) (by kernel_rfl) (by kernel_rfl) rfl rfl (by kernel_rfl) (by kernel_rfl) (by kernel_rfl) (fun _ _ _ h => h) (Or.inl ⟨by rfl, ?_⟩) (by assumption) ?_
  rotate_left
  · (intro w hSw; (try dsimp only at hSw); go_simp; (try rw [if_neg (by omega)]); (try (with_reducible rfl)))
  simp only [Act.put, List.setIfInBounds_toArray, List.set_cons_zero, List.set_cons_succ]
  refine take_F (i := 34) (d := some 126) (v := ?_) (by kernel_rfl) (by kernel_rfl) rfl rfl (by kernel_rfl) (by kernel_rfl) (by kernel_rfl) (fun _ _ _ h => h) (Or.inl ⟨by rfl, ?_⟩) (by assumption) ?_
  rotate_left
  · (intro w hSw; (try dsimp only at hSw); go_simp; (try rw [if_neg (by omega)]); (try (with_reducible rfl)))
  simp only [Act.put, List.setIfInBounds_toArray, List.set_cons_zero, List.set_cons_succ]
  refine take_F (i := 35) (d := some 127) (v := ?_) (by kernel_rfl) (by kernel_rfl) rfl rfl (by kernel_rfl) (by kernel_rfl) (by kernel_rfl) (fun _ _ _ h => h) (Or.inl ⟨by rfl, ?_⟩) (by assumption) ?_
  rotate_left
  · (intro w hSw; (try dsimp only at hSw); go_simp; (try rw [if_neg (by omega)]); (try (with_reducible rfl)))
  simp only [Act.put, List.setIfInBounds_toArray, List.set_cons_zero, List.set_cons_succ]
  refine take_F (i := 36) (d := some 128) (v := ?_) (by kernel_rfl) (by kernel_rfl) rfl rfl (by kernel_rfl) (by kernel_rfl) (by kernel_rfl) (fun _ _ _ h => h) (Or.inl ⟨by rfl, ?_⟩) (by assumption) ?_
  rotate_left
  · (intro w hSw; (try dsimp only at hSw); go_simp; (try rw [if_neg (by omega)]); (try (with_reducible rfl)))
  simp only [Act.put, List.setIfInBounds_toArray, List.set_cons_zero, List.set_cons_succ]
  refine take_F (i := 37) (d := some 129) (v := ?_) (by kernel_rfl) (by kernel_rfl) rfl rfl (by kernel_rfl) (by kernel_rfl) (by kernel_rfl) (fun _ _ _ h => h) (Or.inl ⟨by rfl, ?_⟩) (by assumption) ?_
  rotate_left
  · (intro w hSw; (try dsimp only at hSw); go_simp; (try rw [if_neg (by omega)]); (try (with_reducible rfl)))
  simp only [Act.put, List.setIfInBounds_toArray, List.set_cons_zero, List.set_cons_succ]
  refine call_L (i := 38) (d := (some 130)) rfl rfl (by kernel_rfl) (fun Kq hKq => ?_)
  go_simp
  go_at_call 27
  refine (f6texts_sameD _ _ _ _ LD _ (R20.out.below hacc) (R22.out.below hacc) (by omega)).mono ?_; rintro e w53 ⟨rfl, nq, hwq⟩
  have hb := below_eqA hwq
  clear hwq
  have hS3 : Q4 w53 q3 (.int .i64 u3) (.int .i64 l3) (.int .i64 w3) (.slice A3 rs3.length c3) ∧ Q4 w53 q5 (.int .i64 u5) (.int .i64 l5) (.int .i64 w5) (.slice A5 rs5.length c5) ∧ Q4 w53 q7 (.int .i64 u5) (.int .i64 l5) (.int .i64 w5) (.slice A7 rs5.length c7) ∧ Q4 w53 q9 (.int .i64 u9) (.int .i64 l9) (.int .i64 w9) (.slice A9 rs9.length c9) ∧ Q4 w53 q10 (.int .i64 u10) (.int .i64 l10) (.int .i64 w10) (.slice A10 rs10.length c10) ∧ Q4 w53 q12 (.int .i64 u10) (.int .i64 l10) (.int .i64 w10) (.slice A12 rs10.length c12) ∧ Q4 w53 q24 (.int .i64 u24) (.int .i64 l24) (.int .i64 w24) (.slice A24 rs24.length c24) ∧ Q4 w53 (q24 + 1) (.int .i64 u25) (.int .i64 l25) (.int .i64 w25) (.slice A25 rs25.length c25) := ⟨hS2.1.below hb, hS2.2.1.below hb, hS2.2.2.1.below hb, hS2.2.2.2.1.below hb, hS2.2.2.2.2.1.below hb, hS2.2.2.2.2.2.1.below hb, hS2.2.2.2.2.2.2.1.below hb, hS2.2.2.2.2.2.2.2.below hb⟩
  clear hS2
  have hac2 := hacc.trans (hb.mono hacc.size); clear hacc; have hacc := hac2; clear hac2 hb
  (try go_wp2_with fail)
  refine hKq.out _ _ (⟨hS3.1.c, hS3.2.1.c, hS3.2.2.1.c, hS3.2.2.2.1.c, hS3.2.2.2.2.1.c, hS3.2.2.2.2.2.1.c, hS3.2.2.2.2.2.2.1.c, hS3.2.2.2.2.2.2.2.c⟩) (fun hHeld => ?_)
  clear hKq Kq
  (try simp only [Act.put, List.setIfInBounds_toArray, List.set_cons_zero, List.set_cons_succ])
  refine take_F (i := 39) (d := some 131) (v := ?_) (by kernel_rfl) (by kernel_rfl) rfl rfl (by kernel_rfl) (by kernel_rfl) (by kernel_rfl) (fun _ _ _ h => h) (Or.inl ⟨by rfl, ?_⟩) (by assumption) ?_
  rotate_left
  · (intro w hSw; (try dsimp only at hSw); go_simp; (try rw [if_neg (by omega)]); (try (with_reducible rfl)))
  simp only [Act.put, List.setIfInBounds_toArray, List.set_cons_zero, List.set_cons_succ]
  refine take_F (i := 40) (d := some 132) (v := ?_) (by kernel_rfl) (by kernel_rfl) rfl rfl (by kernel_rfl) (by kernel_rfl) (by kernel_rfl) (fun _ _ _ h => h) (Or.inl ⟨by rfl, ?_⟩) (by assumption) ?_
  rotate_left
  · (intro w hSw; (try dsimp only at hSw); go_simp; (try rw [if_neg (by omega)]); (try (with_reducible rfl)))
  simp only [Act.put, List.setIfInBounds_toArray, List.set_cons_zero, List.set_cons_succ]
  refine take_F (i := 41) (d := some 133) (v := ?_) (by kernel_rfl) (by kernel_rfl) rfl rfl (by kernel_rfl) (by kernel_rfl) (by kernel_rfl) (fun _ _ _ h => h) (Or.inl ⟨by rfl, ?_⟩) (by assumption) ?_
  rotate_left
  · (intro w hSw; (try dsimp only at hSw); go_simp; (try rw [if_neg (by omega)]); (try (with_reducible rfl)))
  simp only [Act.put, List.setIfInBounds_toArray, List.set_cons_zero, List.set_cons_succ]
  refine take_L [57,56,50,47,44,42] (i := 42) (d := some 134) (v := ?_) (by kernel_rfl) (by kernel_rfl) (by kernel_rfl) (by kernel_rfl) rfl rfl (by kernel_rfl) (by kernel_rfl) (by kernel_rfl) (fun _ _ _ h => h) (Or.inl ⟨by rfl, ?_⟩) (by assumption) ?_
  rotate_left
  · (intro w hSw; (try dsimp only at hSw); go_simp; (try rw [if_neg (by omega)]); (try (with_reducible rfl)))
  simp only [Act.put, List.setIfInBounds_toArray, List.set_cons_zero, List.set_cons_succ]
  refine take_L [57,56,50,47,44,43] (i := 43) (d := some 135) (v := ?_) (by kernel_rfl) (by kernel_rfl) (by kernel_rfl) (by kernel_rfl) rfl rfl (by kernel_rfl) (by kernel_rfl) (by kernel_rfl) (fun _ _ _ h => h) (Or.inl ⟨by rfl, ?_⟩) (by assumption) ?_
  rotate_left
  · (intro w hSw; (try dsimp only at hSw); go_simp; (try rw [if_neg (by omega)]); (try (with_reducible rfl)))
  simp only [Act.put, List.setIfInBounds_toArray, List.set_cons_zero, List.set_cons_succ]
  refine take_L [57,56,50,47,45] (i := 45) (d := some 137) (v := ?_) (by kernel_rfl) (by kernel_rfl) (by kernel_rfl) (by kernel_rfl) rfl rfl (by kernel_rfl) (by kernel_rfl) (by kernel_rfl) (fun _ _ _ h => h) (Or.inl ⟨by rfl, ?_⟩) (by assumption) ?_
  rotate_left
  · (intro w hSw; (try dsimp only at hSw); go_simp; (try rw [if_neg (by omega)]); (try (with_reducible rfl)))
  simp only [Act.put, List.setIfInBounds_toArray, List.set_cons_zero, List.set_cons_succ]
  refine take_L [57,56,50,47,46] (i := 46) (d := some 138) (v := ?_) (by kernel_rfl) (by kernel_rfl) (by kernel_rfl) (by kernel_rfl) rfl rfl (by kernel_rfl) (by kernel_rfl) (by kernel_rfl) (fun _ _ _ h => h) (Or.inl ⟨by rfl, ?_⟩) (by assumption) ?_
  rotate_left
  · (intro w hSw; (try dsimp only at hSw); go_simp; (try rw [if_neg (by omega)]); (try (with_reducible rfl)))
  simp only [Act.put, List.setIfInBounds_toArray, List.set_cons_zero, List.set_cons_succ]
  refine call_L (i := 44) (d := (some 136)) rfl rfl (by kernel_rfl) (fun Kq hKq => ?_)
  go_simp
  go_at_call 46
  refine (HMI.out _ _ (R24.out.below hacc) (R25.out.below hacc) hacc.size).mono ?_; rintro e w54 ⟨rfl, hb⟩
  have hS4 : Q4 w54 q3 (.int .i64 u3) (.int .i64 l3) (.int .i64 w3) (.slice A3 rs3.length c3) ∧ Q4 w54 q5 (.int .i64 u5) (.int .i64 l5) (.int .i64 w5) (.slice A5 rs5.length c5) ∧ Q4 w54 q7 (.int .i64 u5) (.int .i64 l5) (.int .i64 w5) (.slice A7 rs5.length c7) ∧ Q4 w54 q9 (.int .i64 u9) (.int .i64 l9) (.int .i64 w9) (.slice A9 rs9.length c9) ∧ Q4 w54 q10 (.int .i64 u10) (.int .i64 l10) (.int .i64 w10) (.slice A10 rs10.length c10) ∧ Q4 w54 q12 (.int .i64 u10) (.int .i64 l10) (.int .i64 w10) (.slice A12 rs10.length c12) ∧ Q4 w54 q24 (.int .i64 u24) (.int .i64 l24) (.int .i64 w24) (.slice A24 rs24.length c24) ∧ Q4 w54 (q24 + 1) (.int .i64 u25) (.int .i64 l25) (.int .i64 w25) (.slice A25 rs25.length c25) := ⟨hS3.1.below hb, hS3.2.1.below hb, hS3.2.2.1.below hb, hS3.2.2.2.1.below hb, hS3.2.2.2.2.1.below hb, hS3.2.2.2.2.2.1.below hb, hS3.2.2.2.2.2.2.1.below hb, hS3.2.2.2.2.2.2.2.below hb⟩
  clear hS3
  have hac2 := hacc.trans (hb.mono hacc.size); clear hacc; have hacc := hac2; clear hac2 hb
  (try go_wp2_with fail)
  refine hKq.out _ _ (⟨hS4.1.c, hS4.2.1.c, hS4.2.2.1.c, hS4.2.2.2.1.c, hS4.2.2.2.2.1.c, hS4.2.2.2.2.2.1.c, hS4.2.2.2.2.2.2.1.c, hS4.2.2.2.2.2.2.2.c⟩) (fun hHeld => ?_)
  clear hKq Kq
  (try simp only [Act.put, List.setIfInBounds_toArray, List.set_cons_zero, List.set_cons_succ])
  refine call_L (i := 47) (d := (some 139)) rfl rfl (by kernel_rfl) (fun Kq hKq => ?_)
  go_simp
  go_at_call 45
  refine (HMS.out _ _ (R24.out.below hacc) (R25.out.below hacc) hacc.size).mono ?_; rintro e w55 ⟨rfl, hb⟩
  have hS5 : Q4 w55 q3 (.int .i64 u3) (.int .i64 l3) (.int .i64 w3) (.slice A3 rs3.length c3) ∧ Q4 w55 q5 (.int .i64 u5) (.int .i64 l5) (.int .i64 w5) (.slice A5 rs5.length c5) ∧ Q4 w55 q7 (.int .i64 u5) (.int .i64 l5) (.int .i64 w5) (.slice A7 rs5.length c7) ∧ Q4 w55 q9 (.int .i64 u9) (.int .i64 l9) (.int .i64 w9) (.slice A9 rs9.length c9) ∧ Q4 w55 q10 (.int .i64 u10) (.int .i64 l10) (.int .i64 w10) (.slice A10 rs10.length c10) ∧ Q4 w55 q12 (.int .i64 u10) (.int .i64 l10) (.int .i64 w10) (.slice A12 rs10.length c12) ∧ Q4 w55 q24 (.int .i64 u24) (.int .i64 l24) (.int .i64 w24) (.slice A24 rs24.length c24) ∧ Q4 w55 (q24 + 1) (.int .i64 u25) (.int .i64 l25) (.int .i64 w25) (.slice A25 rs25.length c25) := ⟨hS4.1.below hb, hS4.2.1.below hb, hS4.2.2.1.below hb, hS4.2.2.2.1.below hb, hS4.2.2.2.2.1.below hb, hS4.2.2.2.2.2.1.below hb, hS4.2.2.2.2.2.2.1.below hb, hS4.2.2.2.2.2.2.2.below hb⟩
  clear hS4
  have hac2 := hacc.trans (hb.mono hacc.size); clear hacc; have hacc := hac2; clear hac2 hb
  (try go_wp2_with fail)
  refine hKq.out _ _ (⟨hS5.1.c, hS5.2.1.c, hS5.2.2.1.c, hS5.2.2.2.1.c, hS5.2.2.2.2.1.c, hS5.2.2.2.2.2.1.c, hS5.2.2.2.2.2.2.1.c, hS5.2.2.2.2.2.2.2.c⟩) (fun hHeld => ?_)
  clear hKq Kq
  (try simp only [Act.put, List.setIfInBounds_toArray, List.set_cons_zero, List.set_cons_succ])
  refine take_F (i := 48) (d := some 140) (v := ?_) (by kernel_rfl) (by kernel_rfl) rfl rfl (by kernel_rfl) (by kernel_rfl) (by kernel_rfl) (fun _ _ _ h => h) (Or.inl ⟨by rfl, ?_⟩) (by assumption) ?_
  rotate_left
  · (intro w hSw; (try dsimp only at hSw); go_simp; (try rw [if_neg (by omega)]); (try (with_reducible rfl)))
  simp only [Act.put, List.setIfInBounds_toArray, List.set_cons_zero, List.set_cons_succ]
  refine take_F (i := 49) (d := some 141) (v := ?_) (by kernel_rfl) (by kernel_rfl) rfl rfl (by kernel_rfl) (by kernel_rfl) (by kernel_rfl) (fun _ _ _ h => h) (Or.inl ⟨by rfl, ?_⟩) (by assumption) ?_
  rotate_left
  · (intro w hSw; (try dsimp only at hSw); go_simp; (try rw [if_neg (by omega)]); (try (with_reducible rfl)))
  simp only [Act.put, List.setIfInBounds_toArray, List.set_cons_zero, List.set_cons_succ]
  refine take_F (i := 50) (d := some 142) (v := ?_) (by kernel_rfl) (by kernel_rfl) rfl rfl (by kernel_rfl) (by kernel_rfl) (by kernel_rfl) (fun _ _ _ h => h) (Or.inl ⟨by rfl, ?_⟩) (by assumption) ?_
  rotate_left
  · (intro w hSw; (try dsimp only at hSw); go_simp; (try rw [if_neg (by omega)]); (try (with_reducible rfl)))
  simp only [Act.put, List.setIfInBounds_toArray, List.set_cons_zero, List.set_cons_succ]
  refine take_L [57,54,52,51] (i := 51) (d := some 143) (v := ?_) (by kernel_rfl) (by kernel_rfl) (by kernel_rfl) (by kernel_rfl) rfl rfl (by kernel_rfl) (by kernel_rfl) (by kernel_rfl) (fun _ _ _ h => h) (Or.inl ⟨by rfl, ?_⟩) (by assumption) ?_
  rotate_left
  · (intro w hSw; (try dsimp only at hSw); go_simp; (try rw [if_neg (by omega)]); (try (with_reducible rfl)))
  simp only [Act.put, List.setIfInBounds_toArray, List.set_cons_zero, List.set_cons_succ]
  refine take_L [57,54,53] (i := 53) (d := some 145) (v := ?_) (by kernel_rfl) (by kernel_rfl) (by kernel_rfl) (by kernel_rfl) rfl rfl (by kernel_rfl) (by kernel_rfl) (by kernel_rfl) (fun _ _ _ h => h) (Or.inl ⟨by rfl, ?_⟩) (by assumption) ?_
  rotate_left
  · (intro w hSw; (try dsimp only at hSw); go_simp; (try rw [if_neg (by omega)]); (try (with_reducible rfl)))
  simp only [Act.put, List.setIfInBounds_toArray, List.set_cons_zero, List.set_cons_succ]
  refine call_L (i := 52) (d := (some 144)) rfl rfl (by kernel_rfl) (fun Kq hKq => ?_)
  go_simp
  go_at_call 47
  refine (HVI.out _ _ (R3.out.below hacc) hacc.size).mono ?_; rintro e w56 ⟨rfl, hb⟩
  have hS6 : Q4 w56 q3 (.int .i64 u3) (.int .i64 l3) (.int .i64 w3) (.slice A3 rs3.length c3) ∧ Q4 w56 q5 (.int .i64 u5) (.int .i64 l5) (.int .i64 w5) (.slice A5 rs5.length c5) ∧ Q4 w56 q7 (.int .i64 u5) (.int .i64 l5) (.int .i64 w5) (.slice A7 rs5.length c7) ∧ Q4 w56 q9 (.int .i64 u9) (.int .i64 l9) (.int .i64 w9) (.slice A9 rs9.length c9) ∧ Q4 w56 q10 (.int .i64 u10) (.int .i64 l10) (.int .i64 w10) (.slice A10 rs10.length c10) ∧ Q4 w56 q12 (.int .i64 u10) (.int .i64 l10) (.int .i64 w10) (.slice A12 rs10.length c12) ∧ Q4 w56 q24 (.int .i64 u24) (.int .i64 l24) (.int .i64 w24) (.slice A24 rs24.length c24) ∧ Q4 w56 (q24 + 1) (.int .i64 u25) (.int .i64 l25) (.int .i64 w25) (.slice A25 rs25.length c25) := ⟨hS5.1.below hb, hS5.2.1.below hb, hS5.2.2.1.below hb, hS5.2.2.2.1.below hb, hS5.2.2.2.2.1.below hb, hS5.2.2.2.2.2.1.below hb, hS5.2.2.2.2.2.2.1.below hb, hS5.2.2.2.2.2.2.2.below hb⟩
  clear hS5
  have hac2 := hacc.trans (hb.mono hacc.size); clear hacc; have hacc := hac2; clear hac2 hb
  (try go_wp2_with fail)
  refine hKq.out _ _ (⟨hS6.1.c, hS6.2.1.c, hS6.2.2.1.c, hS6.2.2.2.1.c, hS6.2.2.2.2.1.c, hS6.2.2.2.2.2.1.c, hS6.2.2.2.2.2.2.1.c, hS6.2.2.2.2.2.2.2.c⟩) (fun hHeld => ?_)
  clear hKq Kq
  (try simp only [Act.put, List.setIfInBounds_toArray, List.set_cons_zero, List.set_cons_succ])
  refine call_L (i := 54) (d := (some 146)) rfl rfl (by kernel_rfl) (fun Kq hKq => ?_)
  go_simp
  go_at_call 48
  refine (HVS.out _ _ (R3.out.below hacc) hacc.size).mono ?_; rintro e w57 ⟨rfl, hb⟩
  have hS7 : Q4 w57 q3 (.int .i64 u3) (.int .i64 l3) (.int .i64 w3) (.slice A3 rs3.length c3) ∧ Q4 w57 q5 (.int .i64 u5) (.int .i64 l5) (.int .i64 w5) (.slice A5 rs5.length c5) ∧ Q4 w57 q7 (.int .i64 u5) (.int .i64 l5) (.int .i64 w5) (.slice A7 rs5.length c7) ∧ Q4 w57 q9 (.int .i64 u9) (.int .i64 l9) (.int .i64 w9) (.slice A9 rs9.length c9) ∧ Q4 w57 q10 (.int .i64 u10) (.int .i64 l10) (.int .i64 w10) (.slice A10 rs10.length c10) ∧ Q4 w57 q12 (.int .i64 u10) (.int .i64 l10) (.int .i64 w10) (.slice A12 rs10.length c12) ∧ Q4 w57 q24 (.int .i64 u24) (.int .i64 l24) (.int .i64 w24) (.slice A24 rs24.length c24) ∧ Q4 w57 (q24 + 1) (.int .i64 u25) (.int .i64 l25) (.int .i64 w25) (.slice A25 rs25.length c25) := ⟨hS6.1.below hb, hS6.2.1.below hb, hS6.2.2.1.below hb, hS6.2.2.2.1.below hb, hS6.2.2.2.2.1.below hb, hS6.2.2.2.2.2.1.below hb, hS6.2.2.2.2.2.2.1.below hb, hS6.2.2.2.2.2.2.2.below hb⟩
  clear hS6
  have hac2 := hacc.trans (hb.mono hacc.size); clear hacc; have hacc := hac2; clear hac2 hb
  (try go_wp2_with fail)
  refine hKq.out _ _ (⟨hS7.1.c, hS7.2.1.c, hS7.2.2.1.c, hS7.2.2.2.1.c, hS7.2.2.2.2.1.c, hS7.2.2.2.2.2.1.c, hS7.2.2.2.2.2.2.1.c, hS7.2.2.2.2.2.2.2.c⟩) (fun hHeld => ?_)
  clear hKq Kq
  (try simp only [Act.put, List.setIfInBounds_toArray, List.set_cons_zero, List.set_cons_succ])
  refine take_F (i := 55) (d := some 147) (v := ?_) (by kernel_rfl) (by kernel_rfl) rfl rfl (by kernel_rfl) (by kernel_rfl) (by kernel_rfl) (fun _ _ _ h => h) (Or.inl ⟨by rfl, ?_⟩) (by assumption) ?_
  rotate_left
  · (intro w hSw; (try dsimp only at hSw); go_simp; (try rw [if_neg (by omega)]); (try (with_reducible rfl)))
  simp only [Act.put, List.setIfInBounds_toArray, List.set_cons_zero, List.set_cons_succ]
  refine take_F (i := 56) (d := some 148) (v := ?_) (by kernel_rfl) (by kernel_rfl) rfl rfl (by kernel_rfl) (by kernel_rfl) (by kernel_rfl) (fun _ _ _ h => h) (Or.inl ⟨by rfl, ?_⟩) (by assumption) ?_
  rotate_left
  · (intro w hSw; (try dsimp only at hSw); go_simp; (try rw [if_neg (by omega)]); (try (with_reducible rfl)))
  simp only [Act.put, List.setIfInBounds_toArray, List.set_cons_zero, List.set_cons_succ]
  refine take_F (i := 57) (d := some 149) (v := ?_) (by kernel_rfl) (by kernel_rfl) rfl rfl (by kernel_rfl) (by kernel_rfl) (by kernel_rfl) (fun _ _ _ h => h) (Or.inl ⟨by rfl, ?_⟩) (by assumption) ?_
  rotate_left
  · (intro w hSw; (try dsimp only at hSw); go_simp; (try rw [if_neg (by omega)]); (try (with_reducible rfl)))
  simp only [Act.put, List.setIfInBounds_toArray, List.set_cons_zero, List.set_cons_succ]
  refine take_L [62,59,58] (i := 58) (d := some 150) (v := ?_) (by kernel_rfl) (by kernel_rfl) (by kernel_rfl) (by kernel_rfl) rfl rfl (by kernel_rfl) (by kernel_rfl) (by kernel_rfl) (fun _ _ _ h => h) (Or.inl ⟨by rfl, ?_⟩) (by assumption) ?_
  rotate_left
  · (intro w hSw; (try dsimp only at hSw); go_simp; (try rw [if_neg (by omega)]); (try (with_reducible rfl)))
  simp only [Act.put, List.setIfInBounds_toArray, List.set_cons_zero, List.set_cons_succ]
  refine take_L [62,61,60] (i := 60) (d := some 152) (v := ?_) (by kernel_rfl) (by kernel_rfl) (by kernel_rfl) (by kernel_rfl) rfl rfl (by kernel_rfl) (by kernel_rfl) (by kernel_rfl) (fun _ _ _ h => h) (Or.inl ⟨by rfl, ?_⟩) (by assumption) ?_
  rotate_left
  · (intro w hSw; (try dsimp only at hSw); go_simp; (try rw [if_neg (by omega)]); (try (with_reducible rfl)))
  simp only [Act.put, List.setIfInBounds_toArray, List.set_cons_zero, List.set_cons_succ]
  refine call_L (i := 59) (d := (some 151)) rfl rfl (by kernel_rfl) (fun Kq hKq => ?_)
  go_simp
  go_at_call 49
  refine (HJI.out _ _ (R9.out.below hacc) hacc.size).mono ?_; rintro e w58 ⟨rfl, hb⟩
  have hS8 : Q4 w58 q3 (.int .i64 u3) (.int .i64 l3) (.int .i64 w3) (.slice A3 rs3.length c3) ∧ Q4 w58 q5 (.int .i64 u5) (.int .i64 l5) (.int .i64 w5) (.slice A5 rs5.length c5) ∧ Q4 w58 q7 (.int .i64 u5) (.int .i64 l5) (.int .i64 w5) (.slice A7 rs5.length c7) ∧ Q4 w58 q9 (.int .i64 u9) (.int .i64 l9) (.int .i64 w9) (.slice A9 rs9.length c9) ∧ Q4 w58 q10 (.int .i64 u10) (.int .i64 l10) (.int .i64 w10) (.slice A10 rs10.length c10) ∧ Q4 w58 q12 (.int .i64 u10) (.int .i64 l10) (.int .i64 w10) (.slice A12 rs10.length c12) ∧ Q4 w58 q24 (.int .i64 u24) (.int .i64 l24) (.int .i64 w24) (.slice A24 rs24.length c24) ∧ Q4 w58 (q24 + 1) (.int .i64 u25) (.int .i64 l25) (.int .i64 w25) (.slice A25 rs25.length c25) := ⟨hS7.1.below hb, hS7.2.1.below hb, hS7.2.2.1.below hb, hS7.2.2.2.1.below hb, hS7.2.2.2.2.1.below hb, hS7.2.2.2.2.2.1.below hb, hS7.2.2.2.2.2.2.1.below hb, hS7.2.2.2.2.2.2.2.below hb⟩
  clear hS7
  have hac2 := hacc.trans (hb.mono hacc.size); clear hacc; have hacc := hac2; clear hac2 hb
  (try go_wp2_with fail)
  refine hKq.out _ _ (⟨hS8.1.c, hS8.2.1.c, hS8.2.2.1.c, hS8.2.2.2.1.c, hS8.2.2.2.2.1.c, hS8.2.2.2.2.2.1.c, hS8.2.2.2.2.2.2.1.c, hS8.2.2.2.2.2.2.2.c⟩) (fun hHeld => ?_)
  clear hKq Kq
  (try simp only [Act.put, List.setIfInBounds_toArray, List.set_cons_zero, List.set_cons_succ])
  refine call_L (i := 61) (d := (some 153)) rfl rfl (by kernel_rfl) (fun Kq hKq => ?_)
  go_simp
  go_at_call 50
  refine (HJS.out _ _ (R9.out.below hacc) hacc.size).mono ?_; rintro e w59 ⟨rfl, hb⟩
  have hS9 : Q4 w59 q3 (.int .i64 u3) (.int .i64 l3) (.int .i64 w3) (.slice A3 rs3.length c3) ∧ Q4 w59 q5 (.int .i64 u5) (.int .i64 l5) (.int .i64 w5) (.slice A5 rs5.length c5) ∧ Q4 w59 q7 (.int .i64 u5) (.int .i64 l5) (.int .i64 w5) (.slice A7 rs5.length c7) ∧ Q4 w59 q9 (.int .i64 u9) (.int .i64 l9) (.int .i64 w9) (.slice A9 rs9.length c9) ∧ Q4 w59 q10 (.int .i64 u10) (.int .i64 l10) (.int .i64 w10) (.slice A10 rs10.length c10) ∧ Q4 w59 q12 (.int .i64 u10) (.int .i64 l10) (.int .i64 w10) (.slice A12 rs10.length c12) ∧ Q4 w59 q24 (.int .i64 u24) (.int .i64 l24) (.int .i64 w24) (.slice A24 rs24.length c24) ∧ Q4 w59 (q24 + 1) (.int .i64 u25) (.int .i64 l25) (.int .i64 w25) (.slice A25 rs25.length c25) := ⟨hS8.1.below hb, hS8.2.1.below hb, hS8.2.2.1.below hb, hS8.2.2.2.1.below hb, hS8.2.2.2.2.1.below hb, hS8.2.2.2.2.2.1.below hb, hS8.2.2.2.2.2.2.1.below hb, hS8.2.2.2.2.2.2.2.below hb⟩
  clear hS8
  have hac2 := hacc.trans (hb.mono hacc.size); clear hacc; have hacc := hac2; clear hac2 hb
  (try go_wp2_with fail)
  refine hKq.out _ _ (⟨hS9.1.c, hS9.2.1.c, hS9.2.2.1.c, hS9.2.2.2.1.c, hS9.2.2.2.2.1.c, hS9.2.2.2.2.2.1.c, hS9.2.2.2.2.2.2.1.c, hS9.2.2.2.2.2.2.2.c⟩) (fun hHeld => ?_)
  clear hKq Kq
  (try simp only [Act.put, List.setIfInBounds_toArray, List.set_cons_zero, List.set_cons_succ])
  refine take_F (i := 62) (d := some 154) (v := ?_) (by kernel_rfl) (by kernel_rfl) rfl rfl (by kernel_rfl) (by kernel_rfl) (by kernel_rfl) (fun _ _ _ h => h) (Or.inl ⟨by rfl, ?_⟩) (by assumption) ?_
  rotate_left
  · (intro w hSw; (try dsimp only at hSw); go_simp; (try rw [if_neg (by omega)]); (try (with_reducible rfl)))
  simp only [Act.put, List.setIfInBounds_toArray, List.set_cons_zero, List.set_cons_succ]
  refine take_F (i := 63) (d := some 155) (v := ?_) (by kernel_rfl) (by kernel_rfl) rfl rfl (by kernel_rfl) (by kernel_rfl) (by kernel_rfl) (fun _ _ _ h => h) (Or.inl ⟨by rfl, ?_⟩) (by assumption) ?_
  rotate_left
  · (intro w hSw; (try dsimp only at hSw); go_simp; (try rw [if_neg (by omega)]); (try (with_reducible rfl)))
  simp only [Act.put, List.setIfInBounds_toArray, List.set_cons_zero, List.set_cons_succ]
  refine done_L (by kernel_rfl) ?_ _
  refine NoPanic.normal ?_
  clear hS9
  have R3' := Lib.hid (rdNA R3.out hacc)
  have R5' := Lib.hid (rdNA R5.out hacc)
  have R7' := Lib.hid (rdNA R7.out hacc)
  have R9' := Lib.hid (rdNA R9.out hacc)
  have R10' := Lib.hid (rdNA R10.out hacc)
  have R12' := Lib.hid (rdNA R12.out hacc)
  have R20' := Lib.hid (rdNA R20.out hacc)
  have R22' := Lib.hid (rdNA R22.out hacc)
  have R24' := Lib.hid (rdNA R24.out hacc)
  have R25' := Lib.hid (rdNA R25.out hacc)
  clear R3; have R3 := R3'; clear R3'
  clear R5; have R5 := R5'; clear R5'
  clear R7; have R7 := R7'; clear R7'
  clear R9; have R9 := R9'; clear R9'
  clear R10; have R10 := R10'; clear R10'
  clear R12; have R12 := R12'; clear R12'
  clear R20; have R20 := R20'; clear R20'
  clear R22; have R22 := R22'; clear R22'
  clear R24; have R24 := R24'; clear R24'
  clear R25; have R25 := R25'; clear R25'
  have HQ3' := Lib.hid (HQ3.out.below hacc); clear HQ3; have HQ3 := HQ3'; clear HQ3'
  have HQ5' := Lib.hid (HQ5.out.below hacc); clear HQ5; have HQ5 := HQ5'; clear HQ5'
  have HQ7' := Lib.hid (HQ7.out.below hacc); clear HQ7; have HQ7 := HQ7'; clear HQ7'
  have HQ9' := Lib.hid (HQ9.out.below hacc); clear HQ9; have HQ9 := HQ9'; clear HQ9'
  have HQ10' := Lib.hid (HQ10.out.below hacc); clear HQ10; have HQ10 := HQ10'; clear HQ10'
  have HQ12' := Lib.hid (HQ12.out.below hacc); clear HQ12; have HQ12 := HQ12'; clear HQ12'
  have HQ24' := Lib.hid (HQ24.out.below hacc); clear HQ24; have HQ24 := HQ24'; clear HQ24'
  have HQ25' := Lib.hid (HQ25.out.below hacc); clear HQ25; have HQ25 := HQ25'; clear HQ25'
  have HB' := Lib.hid (HB.out.trans (hacc.mono HB.out.size)); clear HB; have HB := HB'; clear HB'
  clear hacc
  clear R7
  clear R12
  clear R20
  clear R22
  clear R24
  clear R25
  clear R3
  clear HQ3
  clear HQ7
  clear HQ12
  clear HQ24
  clear HQ25
  clear HVI HVS HJI HJS HMI HMS
  have HNY := Lib.hid (fun wx hx => AbValueI_any wx.heap.size u10 l10 w10 (.slice A10 rs10.length c10) rs10 wx hx (Nat.le_refl _) (by omega))
  have HJY := Lib.hid (fun wx hx => IsPlainI_any wx.heap.size u10 l10 w10 (.slice A10 rs10.length c10) rs10 wx hx (Nat.le_refl _) (by omega))
  have HNX := Lib.hid (fun wx hx => AbValueI_any wx.heap.size u5 l5 w5 (.slice A5 rs5.length c5) rs5 wx hx (Nat.le_refl _) (by omega))
  have HJX := Lib.hid (fun wx hx => IsPlainI_any wx.heap.size u5 l5 w5 (.slice A5 rs5.length c5) rs5 wx hx (Nat.le_refl _) (by omega))
  generalize vlV ⟨u10, l10, w10, rs10⟩ = VY at *
  generalize vlC ⟨u10, l10, w10, rs10⟩ = CY at *
  generalize isPl ⟨u10, l10, w10, rs10⟩ = IY at *
  generalize vlV ⟨u5, l5, w5, rs5⟩ = VX at *
  generalize vlC ⟨u5, l5, w5, rs5⟩ = CX at *
  generalize isPl ⟨u5, l5, w5, rs5⟩ = IX at *
  by_cases hz : C11 = 0
  · subst hz
    obtain ⟨e1, e2, e3, e4⟩ := HZP.out rfl
    subst e1
    subst e2
    subst e3
    subst e4
    clear HZP
    obtain ⟨p0, p1, p2, p3⟩ := HQ9.out.c
    go_wp2_with fail
    refine (HNP.out _ R9.out).mono ?_; rintro e wn ⟨rfl, hb⟩
    have R5' := Lib.hid (rdNA R5.out hb)
    have R9' := Lib.hid (rdNA R9.out hb)
    have R10' := Lib.hid (rdNA R10.out hb)
    clear R5; have R5 := R5'; clear R5'
    clear R9; have R9 := R9'; clear R9'
    clear R10; have R10 := R10'; clear R10'
    have HQ5' := Lib.hid (HQ5.out.below hb); clear HQ5; have HQ5 := HQ5'; clear HQ5'
    have HQ9' := Lib.hid (HQ9.out.below hb); clear HQ9; have HQ9 := HQ9'; clear HQ9'
    have HQ10' := Lib.hid (HQ10.out.below hb); clear HQ10; have HQ10 := HQ10'; clear HQ10'
    have HB' := Lib.hid (HB.out.trans (hb.mono HB.out.size)); clear HB; have HB := HB'; clear HB'
    clear hb HNP
    clear p0 p1 p2 p3
    obtain ⟨p0, p1, p2, p3⟩ := HQ10.out.c
    go_wp2_with fail
    refine (HNY.out _ R10.out).mono ?_; rintro e wn ⟨rfl, hb⟩
    have R5' := Lib.hid (rdNA R5.out hb)
    have R9' := Lib.hid (rdNA R9.out hb)
    have R10' := Lib.hid (rdNA R10.out hb)
    clear R5; have R5 := R5'; clear R5'
    clear R9; have R9 := R9'; clear R9'
    clear R10; have R10 := R10'; clear R10'
    have HQ5' := Lib.hid (HQ5.out.below hb); clear HQ5; have HQ5 := HQ5'; clear HQ5'
    have HQ9' := Lib.hid (HQ9.out.below hb); clear HQ9; have HQ9 := HQ9'; clear HQ9'
    have HQ10' := Lib.hid (HQ10.out.below hb); clear HQ10; have HQ10 := HQ10'; clear HQ10'
    have HB' := Lib.hid (HB.out.trans (hb.mono HB.out.size)); clear HB; have HB := HB'; clear HB'
    clear hb HNY
    clear p0 p1 p2 p3
    obtain ⟨p0, p1, p2, p3⟩ := HQ10.out.c
    go_wp2_with fail
    refine (HJY.out _ R10.out).mono ?_; rintro e wn ⟨rfl, hb⟩
    have R5' := Lib.hid (rdNA R5.out hb)
    have R9' := Lib.hid (rdNA R9.out hb)
    have R10' := Lib.hid (rdNA R10.out hb)
    clear R5; have R5 := R5'; clear R5'
    clear R9; have R9 := R9'; clear R9'
    clear R10; have R10 := R10'; clear R10'
    have HQ5' := Lib.hid (HQ5.out.below hb); clear HQ5; have HQ5 := HQ5'; clear HQ5'
    have HQ9' := Lib.hid (HQ9.out.below hb); clear HQ9; have HQ9 := HQ9'; clear HQ9'
    have HQ10' := Lib.hid (HQ10.out.below hb); clear HQ10; have HQ10 := HQ10'; clear HQ10'
    have HB' := Lib.hid (HB.out.trans (hb.mono HB.out.size)); clear HB; have HB := HB'; clear HB'
    clear hb HJY
    clear p0 p1 p2 p3
    clear R9
    clear R10
    clear HQ9
    clear HQ10
    by_cases hc : C6 = 0
    · subst hc
      obtain ⟨e1, e2, e3⟩ := HZS.out rfl
      subst e1
      subst e2
      subst e3
      clear HZS
      obtain ⟨p0, p1, p2, p3⟩ := HQ5.out.c
      go_wp2_with fail
      refine (HNX.out _ R5.out).mono ?_; rintro e wn ⟨rfl, hb⟩
      have R5' := Lib.hid (rdNA R5.out hb)
      clear R5; have R5 := R5'; clear R5'
      have HQ5' := Lib.hid (HQ5.out.below hb); clear HQ5; have HQ5 := HQ5'; clear HQ5'
      have HB' := Lib.hid (HB.out.trans (hb.mono HB.out.size)); clear HB; have HB := HB'; clear HB'
      clear hb HNX
      clear p0 p1 p2 p3
      obtain ⟨p0, p1, p2, p3⟩ := HQ5.out.c
      go_wp2_with fail
      refine (HJX.out _ R5.out).mono ?_; rintro e wn ⟨rfl, hb⟩
      have R5' := Lib.hid (rdNA R5.out hb)
      clear R5; have R5 := R5'; clear R5'
      have HQ5' := Lib.hid (HQ5.out.below hb); clear HQ5; have HQ5 := HQ5'; clear HQ5'
      have HB' := Lib.hid (HB.out.trans (hb.mono HB.out.size)); clear HB; have HB := HB'; clear HB'
      clear hb HJX
      clear p0 p1 p2 p3
      go_wp2_with fail
      go_ret
      exact ⟨rfl, HB.out⟩
    · have hc' : (C6 == 0) = false := by rw [beq_eq_false_iff_ne]; exact hc
      have hc2 : (C6 != 0) = true := by rw [bne_iff_ne]; exact hc
      clear hc HZS
      go_wp2_with fail
      go_ret
      exact ⟨rfl, HB.out⟩
  · have hz' : (C11 == 0) = false := by rw [beq_eq_false_iff_ne]; exact hz
    clear hz HZP HNP HNY HJY
    clear R9
    clear R10
    clear HQ9
    clear HQ10
    by_cases hc : C6 = 0
    · subst hc
      obtain ⟨e1, e2, e3⟩ := HZS.out rfl
      subst e1
      subst e2
      subst e3
      clear HZS
      obtain ⟨p0, p1, p2, p3⟩ := HQ5.out.c
      go_wp2_with fail
      refine (HNX.out _ R5.out).mono ?_; rintro e wn ⟨rfl, hb⟩
      have R5' := Lib.hid (rdNA R5.out hb)
      clear R5; have R5 := R5'; clear R5'
      have HQ5' := Lib.hid (HQ5.out.below hb); clear HQ5; have HQ5 := HQ5'; clear HQ5'
      have HB' := Lib.hid (HB.out.trans (hb.mono HB.out.size)); clear HB; have HB := HB'; clear HB'
      clear hb HNX
      clear p0 p1 p2 p3
      obtain ⟨p0, p1, p2, p3⟩ := HQ5.out.c
      go_wp2_with fail
      refine (HJX.out _ R5.out).mono ?_; rintro e wn ⟨rfl, hb⟩
      have R5' := Lib.hid (rdNA R5.out hb)
      clear R5; have R5 := R5'; clear R5'
      have HQ5' := Lib.hid (HQ5.out.below hb); clear HQ5; have HQ5 := HQ5'; clear HQ5'
      have HB' := Lib.hid (HB.out.trans (hb.mono HB.out.size)); clear HB; have HB := HB'; clear HB'
      clear hb HJX
      clear p0 p1 p2 p3
      go_wp2_with fail
      go_ret
      exact ⟨rfl, HB.out⟩
    · have hc' : (C6 == 0) = false := by rw [beq_eq_false_iff_ne]; exact hc
      have hc2 : (C6 != 0) = true := by rw [bne_iff_ne]; exact hc
      clear hc HZS
      go_wp2_with fail
      go_ret
      exact ⟨rfl, HB.out⟩
end Go.Proofs.Ythemffbkkhaaoaa
