/- Merged texts: Fr10. -/
import Derived.Test.YtmeenihnhfhbkaaDoorGCardFractions3
import Derived.Test.YtmeenihnhfhbkaaDoorGCardFractions5
import Derived.Test.YtmeenihnhfhbkaaDoorGCardFractions6
/- The law FnFractions: the walk. -/
namespace Go.Proofs.YtmeenihnhfhbkaaDoor
open Go.RowKit Go.Joins

theorem Q2.pair (w : World) (a b c d : Value) (t : TypeId) : Q2 ((w.alloc (.cells #[a, b] t)).alloc (.cells #[c, d] t)) w.heap.size a b ∧ Q2 ((w.alloc (.cells #[a, b] t)).alloc (.cells #[c, d] t)) (w.heap.size + 1) c d ∧ Below w.heap.size w ((w.alloc (.cells #[a, b] t)).alloc (.cells #[c, d] t)) := by
  obtain ⟨h1, h2, h3⟩ := two_blocksF w #[a, b] #[c, d] t t
  have k1 := blk2 h1
  have k2 := blk2 h2
  exact ⟨⟨blk_ltF h1, k1.1, k1.2.1⟩, ⟨blk_ltF h2, k2.1, k2.2.1⟩, h3⟩
theorem wtN_le (n : Nat) (a b : Nat → Int) (den : Int) : wtN n a b den ≤ n := by unfold wtN; split <;> omega
theorem ftxQ_size (N D : Int) : (ftxQ N D).size ≤ 41 := by
  unfold ftxQ
  split
  · rename_i h
    obtain ⟨h1, h2, _⟩ := okQ_iff.1 h
    exact textQ_size N D (by omega) (by omega) (by omega) (by omega)
  · exact Nat.zero_le _
theorem ftx_empty (N D : Int) : ((ftxQ N D).toList == []) = !(okQ N D) := by
  have e0 : (⟨#[]⟩ : ByteArray).toList = [] := by simp [ByteArray.toList_eq]
  cases ho : okQ N D with
  | false =>
    have e : ftxQ N D = ⟨#[]⟩ := by unfold ftxQ; rw [ho]; rfl
    rw [e, e0]; rfl
  | true =>
    have e : ftxQ N D = textQ N D := by unfold ftxQ; rw [ho]; rfl
    rw [e, ← e0, ba_beq]
    exact decide_eq_false (textQ_ne ho)
set_option maxRecDepth 100000 in
set_option maxHeartbeats 25600000 in
theorem walkFnFractions {W : World} (v : Value) (bs : List UInt8) (h : Rd W W.heap.size v bs.length 1 (bs.map byV)) (_hl : bs.length ≤ maxLen) (ht : Tab W) :
    Calls Tryd.prog 3 #[v] W fun e w' => e = .returned (.bool true) ∧ Below W.heap.size W w' := by
  have HB := Lib.hid (Below.refl W.heap.size W)
  have HC := Lib.hid h
  have HTb := Lib.hid (fun w2 (hb : Below W.heap.size W w2) => ht.below hb)
  have HG := Lib.hid (f6big_D _ _ v _ W h)
  obtain ⟨_, A0, c0, rfl, _⟩ := h
  clear ht
  by_cases hbig : 4096 < bs.length
  · rw [decide_eq_true hbig] at HG
    clear hbig
    go_enter Tryd.func3, Tryd.ntmps3
    go_wp2_with fail
    refine HG.out.mono ?_; rintro e w1 ⟨rfl, rfl⟩
    go_wp2_with fail
    go_ret
    exact ⟨rfl, HB.out⟩
  rw [decide_eq_false hbig] at HG
  clear hbig
  go_enter Tryd.func3, Tryd.ntmps3
  go_wp2_with fail
  refine HG.out.mono ?_; rintro e w1 ⟨rfl, rfl⟩
  clear HG
  go_wp2_with fail
  refine (DrawAddFractions_a _ _ bs _ (HC.out.below HB.out) HB.out.size).mono ?_; rintro e wn ⟨xa, xb, xc, xd, rfl, hb⟩
  have HB' := Lib.hid (HB.out.trans (hb.mono HB.out.size)); clear HB; have HB := HB'; clear HB'
  clear hb
  go_upto_region 4 with (fail)
  obtain ⟨hq3, hq4, hbw⟩ := Q2.pair wn (.int .i64 xa) (.int .i64 xb) (.int .i64 xc) (.int .i64 xd) 25
  have HQ30 := Lib.hid hq3
  have HQ40 := Lib.hid hq4
  have HB' := Lib.hid (HB.out.trans (hbw.mono HB.out.size)); clear HB; have HB := HB'; clear HB'
  have HQ3 := HQ30; clear HQ30
  have HQ4 := HQ40; clear HQ40
  clear hbw hq3 hq4
  generalize hqx : wn.heap.size = q3 at *
  generalize (wn.alloc (.cells #[.int .i64 xa, .int .i64 xb] 25)).alloc (.cells #[.int .i64 xc, .int .i64 xd] 25) = wn at *
  clear hqx
  have HAI := Lib.hid (fun wx => AddI_any xa xb xc xd wx)
  have HAS := Lib.hid (fun wx => AddS_any xa xb xc xd wx)
  have HAC := Lib.hid (fun wx => AddI_any xc xd xa xb wx)
  rw [← adC_comm xa xb xc xd, ← (ad_comm xa xb xc xd).1, ← (ad_comm xa xb xc xd).2] at HAC
  unfold RetQC at HAI HAS HAC
  generalize adN xa xb xc xd = N5 at *
  generalize adD xa xb xc xd = D5 at *
  generalize adC xa xb xc xd = C6 at *
  obtain ⟨a0, a1⟩ := HQ3.out.c
  obtain ⟨b0, b1⟩ := HQ4.out.c
  go_wp2_with fail
  refine (HAI.out _).mono ?_; rintro e wn ⟨rfl, hb⟩
  have HQ3' := Lib.hid (HQ3.out.below hb); clear HQ3; have HQ3 := HQ3'; clear HQ3'
  have HQ4' := Lib.hid (HQ4.out.below hb); clear HQ4; have HQ4 := HQ4'; clear HQ4'
  have HB' := Lib.hid (HB.out.trans (hb.mono HB.out.size)); clear HB; have HB := HB'; clear HB'
  clear hb HAI
  clear a0 a1 b0 b1
  go_upto_region 5 with (fail)
  have hbw := (Below.refl wn.heap.size wn).alloc (Nat.le_refl _) (.cells #[.int .i64 N5, .int .i64 D5] 25)
  have HQ50 := Lib.hid (Q2.new wn (.int .i64 N5) (.int .i64 D5) 25)
  have HQ3' := Lib.hid (HQ3.out.below hbw); clear HQ3; have HQ3 := HQ3'; clear HQ3'
  have HQ4' := Lib.hid (HQ4.out.below hbw); clear HQ4; have HQ4 := HQ4'; clear HQ4'
  have HB' := Lib.hid (HB.out.trans (hbw.mono HB.out.size)); clear HB; have HB := HB'; clear HB'
  have HQ5 := HQ50; clear HQ50
  clear hbw
  generalize hq5 : wn.heap.size = q5 at *
  generalize wn.alloc (.cells #[.int .i64 N5, .int .i64 D5] 25) = wn at *
  clear hq5
  obtain ⟨a0, a1⟩ := HQ3.out.c
  obtain ⟨b0, b1⟩ := HQ4.out.c
  go_wp2_with fail
  refine (HAS.out _).mono ?_; rintro e wn ⟨rfl, hb⟩
  have HQ3' := Lib.hid (HQ3.out.below hb); clear HQ3; have HQ3 := HQ3'; clear HQ3'
  have HQ4' := Lib.hid (HQ4.out.below hb); clear HQ4; have HQ4 := HQ4'; clear HQ4'
  have HQ5' := Lib.hid (HQ5.out.below hb); clear HQ5; have HQ5 := HQ5'; clear HQ5'
  have HB' := Lib.hid (HB.out.trans (hb.mono HB.out.size)); clear HB; have HB := HB'; clear HB'
  clear hb HAS
  clear a0 a1 b0 b1
  go_upto_region 6 with (fail)
  have hbw := (Below.refl wn.heap.size wn).alloc (Nat.le_refl _) (.cells #[.int .i64 N5, .int .i64 D5] 25)
  have HQ70 := Lib.hid (Q2.new wn (.int .i64 N5) (.int .i64 D5) 25)
  have HQ3' := Lib.hid (HQ3.out.below hbw); clear HQ3; have HQ3 := HQ3'; clear HQ3'
  have HQ4' := Lib.hid (HQ4.out.below hbw); clear HQ4; have HQ4 := HQ4'; clear HQ4'
  have HQ5' := Lib.hid (HQ5.out.below hbw); clear HQ5; have HQ5 := HQ5'; clear HQ5'
  have HB' := Lib.hid (HB.out.trans (hbw.mono HB.out.size)); clear HB; have HB := HB'; clear HB'
  have HQ7 := HQ70; clear HQ70
  clear hbw
  generalize hq7 : wn.heap.size = q7 at *
  generalize wn.alloc (.cells #[.int .i64 N5, .int .i64 D5] 25) = wn at *
  clear hq7
  obtain ⟨a0, a1⟩ := HQ3.out.c
  obtain ⟨b0, b1⟩ := HQ4.out.c
  go_wp2_with fail
  refine (HAC.out _).mono ?_; rintro e wn ⟨rfl, hb⟩
  have HQ3' := Lib.hid (HQ3.out.below hb); clear HQ3; have HQ3 := HQ3'; clear HQ3'
  have HQ4' := Lib.hid (HQ4.out.below hb); clear HQ4; have HQ4 := HQ4'; clear HQ4'
  have HQ5' := Lib.hid (HQ5.out.below hb); clear HQ5; have HQ5 := HQ5'; clear HQ5'
  have HQ7' := Lib.hid (HQ7.out.below hb); clear HQ7; have HQ7 := HQ7'; clear HQ7'
  have HB' := Lib.hid (HB.out.trans (hb.mono HB.out.size)); clear HB; have HB := HB'; clear HB'
  clear hb HAC
  clear a0 a1 b0 b1
  go_upto_region 7 with (fail)
  have hbw := (Below.refl wn.heap.size wn).alloc (Nat.le_refl _) (.cells #[.int .i64 N5, .int .i64 D5] 25)
  have HQ90 := Lib.hid (Q2.new wn (.int .i64 N5) (.int .i64 D5) 25)
  have HQ3' := Lib.hid (HQ3.out.below hbw); clear HQ3; have HQ3 := HQ3'; clear HQ3'
  have HQ4' := Lib.hid (HQ4.out.below hbw); clear HQ4; have HQ4 := HQ4'; clear HQ4'
  have HQ5' := Lib.hid (HQ5.out.below hbw); clear HQ5; have HQ5 := HQ5'; clear HQ5'
  have HQ7' := Lib.hid (HQ7.out.below hbw); clear HQ7; have HQ7 := HQ7'; clear HQ7'
  have HB' := Lib.hid (HB.out.trans (hbw.mono HB.out.size)); clear HB; have HB := HB'; clear HB'
  have HQ9 := HQ90; clear HQ90
  clear hbw
  generalize hq9 : wn.heap.size = q9 at *
  generalize wn.alloc (.cells #[.int .i64 N5, .int .i64 D5] 25) = wn at *
  clear hq9
  clear HQ3
  clear HQ4
  go_wp2_with fail
  refine (DrawPlainFraction_a _ _ bs _ (HC.out.below HB.out) HB.out.size).mono ?_; rintro e wn ⟨x11, x12, rfl, hb⟩
  have HQ5' := Lib.hid (HQ5.out.below hb); clear HQ5; have HQ5 := HQ5'; clear HQ5'
  have HQ7' := Lib.hid (HQ7.out.below hb); clear HQ7; have HQ7 := HQ7'; clear HQ7'
  have HQ9' := Lib.hid (HQ9.out.below hb); clear HQ9; have HQ9 := HQ9'; clear HQ9'
  have HB' := Lib.hid (HB.out.trans (hb.mono HB.out.size)); clear HB; have HB := HB'; clear HB'
  clear hb
  have HPI := Lib.hid (fun wx => PlainI_any x11 x12 wx)
  have HPS := Lib.hid (fun wx => PlainS_any x11 x12 wx)
  unfold RetQC at HPI HPS
  generalize plN x11 x12 = N13 at *
  generalize plD x11 x12 = D13 at *
  generalize plC x11 x12 = C14 at *
  go_wp2_with fail
  refine (HPI.out _).mono ?_; rintro e wn ⟨rfl, hb⟩
  have HQ5' := Lib.hid (HQ5.out.below hb); clear HQ5; have HQ5 := HQ5'; clear HQ5'
  have HQ7' := Lib.hid (HQ7.out.below hb); clear HQ7; have HQ7 := HQ7'; clear HQ7'
  have HQ9' := Lib.hid (HQ9.out.below hb); clear HQ9; have HQ9 := HQ9'; clear HQ9'
  have HB' := Lib.hid (HB.out.trans (hb.mono HB.out.size)); clear HB; have HB := HB'; clear HB'
  clear hb HPI
  go_upto_region 9 with (fail)
  have hbw := (Below.refl wn.heap.size wn).alloc (Nat.le_refl _) (.cells #[.int .i64 N13, .int .i64 D13] 25)
  have HQ130 := Lib.hid (Q2.new wn (.int .i64 N13) (.int .i64 D13) 25)
  have HQ5' := Lib.hid (HQ5.out.below hbw); clear HQ5; have HQ5 := HQ5'; clear HQ5'
  have HQ7' := Lib.hid (HQ7.out.below hbw); clear HQ7; have HQ7 := HQ7'; clear HQ7'
  have HQ9' := Lib.hid (HQ9.out.below hbw); clear HQ9; have HQ9 := HQ9'; clear HQ9'
  have HB' := Lib.hid (HB.out.trans (hbw.mono HB.out.size)); clear HB; have HB := HB'; clear HB'
  have HQ13 := HQ130; clear HQ130
  clear hbw
  generalize hq13 : wn.heap.size = q13 at *
  generalize wn.alloc (.cells #[.int .i64 N13, .int .i64 D13] 25) = wn at *
  clear hq13
  go_wp2_with fail
  refine (HPS.out _).mono ?_; rintro e wn ⟨rfl, hb⟩
  have HQ5' := Lib.hid (HQ5.out.below hb); clear HQ5; have HQ5 := HQ5'; clear HQ5'
  have HQ7' := Lib.hid (HQ7.out.below hb); clear HQ7; have HQ7 := HQ7'; clear HQ7'
  have HQ9' := Lib.hid (HQ9.out.below hb); clear HQ9; have HQ9 := HQ9'; clear HQ9'
  have HQ13' := Lib.hid (HQ13.out.below hb); clear HQ13; have HQ13 := HQ13'; clear HQ13'
  have HB' := Lib.hid (HB.out.trans (hb.mono HB.out.size)); clear HB; have HB := HB'; clear HB'
  clear hb HPS
  go_upto_region 10 with (fail)
  have hbw := (Below.refl wn.heap.size wn).alloc (Nat.le_refl _) (.cells #[.int .i64 N13, .int .i64 D13] 25)
  have HQ150 := Lib.hid (Q2.new wn (.int .i64 N13) (.int .i64 D13) 25)
  have HQ5' := Lib.hid (HQ5.out.below hbw); clear HQ5; have HQ5 := HQ5'; clear HQ5'
  have HQ7' := Lib.hid (HQ7.out.below hbw); clear HQ7; have HQ7 := HQ7'; clear HQ7'
  have HQ9' := Lib.hid (HQ9.out.below hbw); clear HQ9; have HQ9 := HQ9'; clear HQ9'
  have HQ13' := Lib.hid (HQ13.out.below hbw); clear HQ13; have HQ13 := HQ13'; clear HQ13'
  have HB' := Lib.hid (HB.out.trans (hbw.mono HB.out.size)); clear HB; have HB := HB'; clear HB'
  have HQ15 := HQ150; clear HQ150
  clear hbw
  generalize hq15 : wn.heap.size = q15 at *
  generalize wn.alloc (.cells #[.int .i64 N13, .int .i64 D13] 25) = wn at *
  clear hq15
  go_wp2_with fail
  refine (DrawWholeTable_a _ _ bs _ (HC.out.below HB.out) HB.out.size).mono ?_; rintro e wn ⟨v17, n17, a17, b17, x18, rfl, hn17, ho, hb⟩
  have R170 := Lib.hid (Rd.of_own ho)
  have HQ5' := Lib.hid (HQ5.out.below hb); clear HQ5; have HQ5 := HQ5'; clear HQ5'
  have HQ7' := Lib.hid (HQ7.out.below hb); clear HQ7; have HQ7 := HQ7'; clear HQ7'
  have HQ9' := Lib.hid (HQ9.out.below hb); clear HQ9; have HQ9 := HQ9'; clear HQ9'
  have HQ13' := Lib.hid (HQ13.out.below hb); clear HQ13; have HQ13 := HQ13'; clear HQ13'
  have HQ15' := Lib.hid (HQ15.out.below hb); clear HQ15; have HQ15 := HQ15'; clear HQ15'
  have HB' := Lib.hid (HB.out.trans (hb.mono HB.out.size)); clear HB; have HB := HB'; clear HB'
  have R17 := R170; clear R170
  obtain ⟨A17, c17, rfl⟩ := own_sl ho
  clear hb ho
  have HWI := Lib.hid (fun wx hx => WholeI_any wx.heap.size (.slice A17 n17 c17) n17 a17 b17 x18 wx hx (Nat.le_refl _) (by omega))
  have HWS := Lib.hid (fun wx hx => WholeS_any wx.heap.size (.slice A17 n17 c17) n17 a17 b17 x18 wx hx (Nat.le_refl _) (by omega))
  have HWZ := Lib.hid (@wtC_zero n17 a17 b17 x18)
  have HWn := Lib.hid (@wt_ok n17 a17 b17 x18)
  have hl19 := wtN_le n17 a17 b17 x18
  unfold RetWT at HWI HWS
  generalize wtN n17 a17 b17 x18 = N19 at *
  generalize wtC n17 a17 b17 x18 = C20 at *
  generalize wtV a17 b17 x18.toNat = f19 at *
  go_wp2_with fail
  refine (HWI.out _ R17.out).mono ?_; rintro e wn ⟨v19, rfl, ho, hb⟩
  have R190 := Lib.hid (Rd.of_own ho)
  have R17' := Lib.hid (rdN R17.out hb)
  clear R17; have R17 := R17'; clear R17'
  have HQ5' := Lib.hid (HQ5.out.below hb); clear HQ5; have HQ5 := HQ5'; clear HQ5'
  have HQ7' := Lib.hid (HQ7.out.below hb); clear HQ7; have HQ7 := HQ7'; clear HQ7'
  have HQ9' := Lib.hid (HQ9.out.below hb); clear HQ9; have HQ9 := HQ9'; clear HQ9'
  have HQ13' := Lib.hid (HQ13.out.below hb); clear HQ13; have HQ13 := HQ13'; clear HQ13'
  have HQ15' := Lib.hid (HQ15.out.below hb); clear HQ15; have HQ15 := HQ15'; clear HQ15'
  have HB' := Lib.hid (HB.out.trans (hb.mono HB.out.size)); clear HB; have HB := HB'; clear HB'
  have R19 := R190; clear R190
  obtain ⟨A19, c19, rfl⟩ := own_sl ho
  clear hb ho HWI
  go_wp2_with fail
  refine (HWS.out _ R17.out).mono ?_; rintro e wn ⟨v21, rfl, ho, hb⟩
  have R210 := Lib.hid (Rd.of_own ho)
  have R17' := Lib.hid (rdN R17.out hb)
  have R19' := Lib.hid (rdN R19.out hb)
  clear R17; have R17 := R17'; clear R17'
  clear R19; have R19 := R19'; clear R19'
  have HQ5' := Lib.hid (HQ5.out.below hb); clear HQ5; have HQ5 := HQ5'; clear HQ5'
  have HQ7' := Lib.hid (HQ7.out.below hb); clear HQ7; have HQ7 := HQ7'; clear HQ7'
  have HQ9' := Lib.hid (HQ9.out.below hb); clear HQ9; have HQ9 := HQ9'; clear HQ9'
  have HQ13' := Lib.hid (HQ13.out.below hb); clear HQ13; have HQ13 := HQ13'; clear HQ13'
  have HQ15' := Lib.hid (HQ15.out.below hb); clear HQ15; have HQ15 := HQ15'; clear HQ15'
  have HB' := Lib.hid (HB.out.trans (hb.mono HB.out.size)); clear HB; have HB := HB'; clear HB'
  have R21 := R210; clear R210
  obtain ⟨A21, c21, rfl⟩ := own_sl ho
  clear hb ho HWS
  go_wp2_with fail
  refine (DrawCommonDen_a _ _ bs _ (HC.out.below HB.out) HB.out.size).mono ?_; rintro e wn ⟨v23, n23, a23, b23, rfl, hn23, ho, hb⟩
  have R230 := Lib.hid (Rd.of_own ho)
  have R17' := Lib.hid (rdN R17.out hb)
  have R19' := Lib.hid (rdN R19.out hb)
  have R21' := Lib.hid (rdN R21.out hb)
  clear R17; have R17 := R17'; clear R17'
  clear R19; have R19 := R19'; clear R19'
  clear R21; have R21 := R21'; clear R21'
  have HQ5' := Lib.hid (HQ5.out.below hb); clear HQ5; have HQ5 := HQ5'; clear HQ5'
  have HQ7' := Lib.hid (HQ7.out.below hb); clear HQ7; have HQ7 := HQ7'; clear HQ7'
  have HQ9' := Lib.hid (HQ9.out.below hb); clear HQ9; have HQ9 := HQ9'; clear HQ9'
  have HQ13' := Lib.hid (HQ13.out.below hb); clear HQ13; have HQ13 := HQ13'; clear HQ13'
  have HQ15' := Lib.hid (HQ15.out.below hb); clear HQ15; have HQ15 := HQ15'; clear HQ15'
  have HB' := Lib.hid (HB.out.trans (hb.mono HB.out.size)); clear HB; have HB := HB'; clear HB'
  have R23 := R230; clear R230
  obtain ⟨A23, c23, rfl⟩ := own_sl ho
  clear hb ho
  have HMI := Lib.hid (fun wx hx => CommonI_any wx.heap.size (.slice A23 n23 c23) n23 a23 b23 wx hx (Nat.le_refl _) (by omega))
  have HMS := Lib.hid (fun wx hx => CommonS_any wx.heap.size (.slice A23 n23 c23) n23 a23 b23 wx hx (Nat.le_refl _) (by omega))
  have HWI2 := Lib.hid (fun wx hx => WholeI_any wx.heap.size (.slice A23 n23 c23) n23 a23 b23 (cdV n23 a23 b23) wx hx (Nat.le_refl _) (by omega))
  have HCZ := Lib.hid (@wtC_cd n23 a23 b23)
  unfold RetWT at HWI2
  unfold RetNC at HMI HMS
  generalize wtN n23 a23 b23 (cdV n23 a23 b23) = Nz at *
  generalize wtC n23 a23 b23 (cdV n23 a23 b23) = Cz at *
  generalize wtV a23 b23 (cdV n23 a23 b23).toNat = fz at *
  generalize cdV n23 a23 b23 = N24 at *
  generalize cdC n23 a23 b23 = C25 at *
  go_wp2_with fail
  refine (HMI.out _ R23.out).mono ?_; rintro e wn ⟨rfl, hb⟩
  have R17' := Lib.hid (rdN R17.out hb)
  have R19' := Lib.hid (rdN R19.out hb)
  have R21' := Lib.hid (rdN R21.out hb)
  have R23' := Lib.hid (rdN R23.out hb)
  clear R17; have R17 := R17'; clear R17'
  clear R19; have R19 := R19'; clear R19'
  clear R21; have R21 := R21'; clear R21'
  clear R23; have R23 := R23'; clear R23'
  have HQ5' := Lib.hid (HQ5.out.below hb); clear HQ5; have HQ5 := HQ5'; clear HQ5'
  have HQ7' := Lib.hid (HQ7.out.below hb); clear HQ7; have HQ7 := HQ7'; clear HQ7'
  have HQ9' := Lib.hid (HQ9.out.below hb); clear HQ9; have HQ9 := HQ9'; clear HQ9'
  have HQ13' := Lib.hid (HQ13.out.below hb); clear HQ13; have HQ13 := HQ13'; clear HQ13'
  have HQ15' := Lib.hid (HQ15.out.below hb); clear HQ15; have HQ15 := HQ15'; clear HQ15'
  have HB' := Lib.hid (HB.out.trans (hb.mono HB.out.size)); clear HB; have HB := HB'; clear HB'
  clear hb HMI
  go_wp2_with fail
  refine (HMS.out _ R23.out).mono ?_; rintro e wn ⟨rfl, hb⟩
  have R17' := Lib.hid (rdN R17.out hb)
  have R19' := Lib.hid (rdN R19.out hb)
  have R21' := Lib.hid (rdN R21.out hb)
  have R23' := Lib.hid (rdN R23.out hb)
  clear R17; have R17 := R17'; clear R17'
  clear R19; have R19 := R19'; clear R19'
  clear R21; have R21 := R21'; clear R21'
  clear R23; have R23 := R23'; clear R23'
  have HQ5' := Lib.hid (HQ5.out.below hb); clear HQ5; have HQ5 := HQ5'; clear HQ5'
  have HQ7' := Lib.hid (HQ7.out.below hb); clear HQ7; have HQ7 := HQ7'; clear HQ7'
  have HQ9' := Lib.hid (HQ9.out.below hb); clear HQ9; have HQ9 := HQ9'; clear HQ9'
  have HQ13' := Lib.hid (HQ13.out.below hb); clear HQ13; have HQ13 := HQ13'; clear HQ13'
  have HQ15' := Lib.hid (HQ15.out.below hb); clear HQ15; have HQ15 := HQ15'; clear HQ15'
  have HB' := Lib.hid (HB.out.trans (hb.mono HB.out.size)); clear HB; have HB := HB'; clear HB'
  clear hb HMS
  go_wp2_with fail
  refine (DrawFractionText_a _ _ bs _ (HC.out.below HB.out) HB.out.size).mono ?_; rintro e wn ⟨N28, D28, rfl, hb⟩
  have R17' := Lib.hid (rdN R17.out hb)
  have R19' := Lib.hid (rdN R19.out hb)
  have R21' := Lib.hid (rdN R21.out hb)
  have R23' := Lib.hid (rdN R23.out hb)
  clear R17; have R17 := R17'; clear R17'
  clear R19; have R19 := R19'; clear R19'
  clear R21; have R21 := R21'; clear R21'
  clear R23; have R23 := R23'; clear R23'
  have HQ5' := Lib.hid (HQ5.out.below hb); clear HQ5; have HQ5 := HQ5'; clear HQ5'
  have HQ7' := Lib.hid (HQ7.out.below hb); clear HQ7; have HQ7 := HQ7'; clear HQ7'
  have HQ9' := Lib.hid (HQ9.out.below hb); clear HQ9; have HQ9 := HQ9'; clear HQ9'
  have HQ13' := Lib.hid (HQ13.out.below hb); clear HQ13; have HQ13 := HQ13'; clear HQ13'
  have HQ15' := Lib.hid (HQ15.out.below hb); clear HQ15; have HQ15 := HQ15'; clear HQ15'
  have HB' := Lib.hid (HB.out.trans (hb.mono HB.out.size)); clear HB; have HB := HB'; clear HB'
  clear hb
  go_upto_region 17 with (fail)
  have hbw := (Below.refl wn.heap.size wn).alloc (Nat.le_refl _) (.cells #[.int .i64 N28, .int .i64 D28] 25)
  have HQ280 := Lib.hid (Q2.new wn (.int .i64 N28) (.int .i64 D28) 25)
  have R17' := Lib.hid (rdN R17.out hbw)
  have R19' := Lib.hid (rdN R19.out hbw)
  have R21' := Lib.hid (rdN R21.out hbw)
  have R23' := Lib.hid (rdN R23.out hbw)
  clear R17; have R17 := R17'; clear R17'
  clear R19; have R19 := R19'; clear R19'
  clear R21; have R21 := R21'; clear R21'
  clear R23; have R23 := R23'; clear R23'
  have HQ5' := Lib.hid (HQ5.out.below hbw); clear HQ5; have HQ5 := HQ5'; clear HQ5'
  have HQ7' := Lib.hid (HQ7.out.below hbw); clear HQ7; have HQ7 := HQ7'; clear HQ7'
  have HQ9' := Lib.hid (HQ9.out.below hbw); clear HQ9; have HQ9 := HQ9'; clear HQ9'
  have HQ13' := Lib.hid (HQ13.out.below hbw); clear HQ13; have HQ13 := HQ13'; clear HQ13'
  have HQ15' := Lib.hid (HQ15.out.below hbw); clear HQ15; have HQ15 := HQ15'; clear HQ15'
  have HB' := Lib.hid (HB.out.trans (hbw.mono HB.out.size)); clear HB; have HB := HB'; clear HB'
  have HQ28 := HQ280; clear HQ280
  clear hbw
  generalize hq28 : wn.heap.size = q28 at *
  generalize wn.alloc (.cells #[.int .i64 N28, .int .i64 D28] 25) = wn at *
  clear hq28
  have HXI := Lib.hid (fun wx hx => FTextI_any N28 D28 wx hx)
  have HXS := Lib.hid (fun wx => FTextS_any N28 D28 wx)
  have HXR := Lib.hid (fun wx hx => ReadFI_any (ftxQ N28 D28) wx (Nat.le_trans (ftxQ_size N28 D28) (by omega)) hx)
  unfold RetRF at HXR
  rw [rdFr_ftx] at HXR
  have HXe := Lib.hid (ftx_empty N28 D28)
  generalize ftxQ N28 D28 = T29 at *
  obtain ⟨a0, a1⟩ := HQ28.out.c
  go_wp2_with fail
  refine (HXI.out _ (HTb.out _ HB.out)).mono ?_; rintro e wn ⟨rfl, hb⟩
  have R17' := Lib.hid (rdN R17.out hb)
  have R19' := Lib.hid (rdN R19.out hb)
  have R21' := Lib.hid (rdN R21.out hb)
  have R23' := Lib.hid (rdN R23.out hb)
  clear R17; have R17 := R17'; clear R17'
  clear R19; have R19 := R19'; clear R19'
  clear R21; have R21 := R21'; clear R21'
  clear R23; have R23 := R23'; clear R23'
  have HQ5' := Lib.hid (HQ5.out.below hb); clear HQ5; have HQ5 := HQ5'; clear HQ5'
  have HQ7' := Lib.hid (HQ7.out.below hb); clear HQ7; have HQ7 := HQ7'; clear HQ7'
  have HQ9' := Lib.hid (HQ9.out.below hb); clear HQ9; have HQ9 := HQ9'; clear HQ9'
  have HQ13' := Lib.hid (HQ13.out.below hb); clear HQ13; have HQ13 := HQ13'; clear HQ13'
  have HQ15' := Lib.hid (HQ15.out.below hb); clear HQ15; have HQ15 := HQ15'; clear HQ15'
  have HQ28' := Lib.hid (HQ28.out.below hb); clear HQ28; have HQ28 := HQ28'; clear HQ28'
  have HB' := Lib.hid (HB.out.trans (hb.mono HB.out.size)); clear HB; have HB := HB'; clear HB'
  clear hb HXI a0 a1
  cases ho28 : okQ N28 D28 with
  | false =>
    rw [ho28] at HXR HXe
    dsimp only [Option.getD, Option.isSome, Bool.not_true, Bool.not_false, if_true, if_false] at HXR HXe
    simp only [if_true, if_false, Bool.false_eq_true] at HXR
    clear ho28
    go_wp2_with fail
    refine (HXR.out _ (HTb.out _ HB.out)).mono ?_; rintro e wn ⟨rfl, hb⟩
    have R17' := Lib.hid (rdN R17.out hb)
    have R19' := Lib.hid (rdN R19.out hb)
    have R21' := Lib.hid (rdN R21.out hb)
    have R23' := Lib.hid (rdN R23.out hb)
    clear R17; have R17 := R17'; clear R17'
    clear R19; have R19 := R19'; clear R19'
    clear R21; have R21 := R21'; clear R21'
    clear R23; have R23 := R23'; clear R23'
    have HQ5' := Lib.hid (HQ5.out.below hb); clear HQ5; have HQ5 := HQ5'; clear HQ5'
    have HQ7' := Lib.hid (HQ7.out.below hb); clear HQ7; have HQ7 := HQ7'; clear HQ7'
    have HQ9' := Lib.hid (HQ9.out.below hb); clear HQ9; have HQ9 := HQ9'; clear HQ9'
    have HQ13' := Lib.hid (HQ13.out.below hb); clear HQ13; have HQ13 := HQ13'; clear HQ13'
    have HQ15' := Lib.hid (HQ15.out.below hb); clear HQ15; have HQ15 := HQ15'; clear HQ15'
    have HQ28' := Lib.hid (HQ28.out.below hb); clear HQ28; have HQ28 := HQ28'; clear HQ28'
    have HB' := Lib.hid (HB.out.trans (hb.mono HB.out.size)); clear HB; have HB := HB'; clear HB'
    clear hb HXR
    go_upto_region 19 with (fail)
    have hbw := (Below.refl wn.heap.size wn).alloc (Nat.le_refl _) (.cells #[.int .i64 0, .int .i64 0] 25)
    have HQ300 := Lib.hid (Q2.new wn (.int .i64 0) (.int .i64 0) 25)
    have R17' := Lib.hid (rdN R17.out hbw)
    have R19' := Lib.hid (rdN R19.out hbw)
    have R21' := Lib.hid (rdN R21.out hbw)
    have R23' := Lib.hid (rdN R23.out hbw)
    clear R17; have R17 := R17'; clear R17'
    clear R19; have R19 := R19'; clear R19'
    clear R21; have R21 := R21'; clear R21'
    clear R23; have R23 := R23'; clear R23'
    have HQ5' := Lib.hid (HQ5.out.below hbw); clear HQ5; have HQ5 := HQ5'; clear HQ5'
    have HQ7' := Lib.hid (HQ7.out.below hbw); clear HQ7; have HQ7 := HQ7'; clear HQ7'
    have HQ9' := Lib.hid (HQ9.out.below hbw); clear HQ9; have HQ9 := HQ9'; clear HQ9'
    have HQ13' := Lib.hid (HQ13.out.below hbw); clear HQ13; have HQ13 := HQ13'; clear HQ13'
    have HQ15' := Lib.hid (HQ15.out.below hbw); clear HQ15; have HQ15 := HQ15'; clear HQ15'
    have HQ28' := Lib.hid (HQ28.out.below hbw); clear HQ28; have HQ28 := HQ28'; clear HQ28'
    have HB' := Lib.hid (HB.out.trans (hbw.mono HB.out.size)); clear HB; have HB := HB'; clear HB'
    have HQ30 := HQ300; clear HQ300
    clear hbw
    generalize hq30 : wn.heap.size = q30 at *
    generalize wn.alloc (.cells #[.int .i64 0, .int .i64 0] 25) = wn at *
    clear hq30
    go_wp2_with fail
    refine (DrawReadFraction_a _ _ bs _ (HC.out.below HB.out) HB.out.size).mono ?_; rintro e wn ⟨s32, rfl, hs32, hb⟩
    have R17' := Lib.hid (rdN R17.out hb)
    have R19' := Lib.hid (rdN R19.out hb)
    have R21' := Lib.hid (rdN R21.out hb)
    have R23' := Lib.hid (rdN R23.out hb)
    clear R17; have R17 := R17'; clear R17'
    clear R19; have R19 := R19'; clear R19'
    clear R21; have R21 := R21'; clear R21'
    clear R23; have R23 := R23'; clear R23'
    have HQ5' := Lib.hid (HQ5.out.below hb); clear HQ5; have HQ5 := HQ5'; clear HQ5'
    have HQ7' := Lib.hid (HQ7.out.below hb); clear HQ7; have HQ7 := HQ7'; clear HQ7'
    have HQ9' := Lib.hid (HQ9.out.below hb); clear HQ9; have HQ9 := HQ9'; clear HQ9'
    have HQ13' := Lib.hid (HQ13.out.below hb); clear HQ13; have HQ13 := HQ13'; clear HQ13'
    have HQ15' := Lib.hid (HQ15.out.below hb); clear HQ15; have HQ15 := HQ15'; clear HQ15'
    have HQ28' := Lib.hid (HQ28.out.below hb); clear HQ28; have HQ28 := HQ28'; clear HQ28'
    have HQ30' := Lib.hid (HQ30.out.below hb); clear HQ30; have HQ30 := HQ30'; clear HQ30'
    have HB' := Lib.hid (HB.out.trans (hb.mono HB.out.size)); clear HB; have HB := HB'; clear HB'
    clear hb
    have HYI := Lib.hid (fun wx hx => ReadFI_any s32 wx (by omega) hx)
    have HYS := Lib.hid (fun wx => ReadFS_any s32 wx (by omega))
    unfold RetRF at HYI HYS
    generalize ((rdFr s32).getD (0, 0)).1 = N33 at *
    generalize ((rdFr s32).getD (0, 0)).2 = D33 at *
    generalize (rdFr s32).isSome = b34 at *
    go_wp2_with fail
    refine (HYI.out _ (HTb.out _ HB.out)).mono ?_; rintro e wn ⟨rfl, hb⟩
    have R17' := Lib.hid (rdN R17.out hb)
    have R19' := Lib.hid (rdN R19.out hb)
    have R21' := Lib.hid (rdN R21.out hb)
    have R23' := Lib.hid (rdN R23.out hb)
    clear R17; have R17 := R17'; clear R17'
    clear R19; have R19 := R19'; clear R19'
    clear R21; have R21 := R21'; clear R21'
    clear R23; have R23 := R23'; clear R23'
    have HQ5' := Lib.hid (HQ5.out.below hb); clear HQ5; have HQ5 := HQ5'; clear HQ5'
    have HQ7' := Lib.hid (HQ7.out.below hb); clear HQ7; have HQ7 := HQ7'; clear HQ7'
    have HQ9' := Lib.hid (HQ9.out.below hb); clear HQ9; have HQ9 := HQ9'; clear HQ9'
    have HQ13' := Lib.hid (HQ13.out.below hb); clear HQ13; have HQ13 := HQ13'; clear HQ13'
    have HQ15' := Lib.hid (HQ15.out.below hb); clear HQ15; have HQ15 := HQ15'; clear HQ15'
    have HQ28' := Lib.hid (HQ28.out.below hb); clear HQ28; have HQ28 := HQ28'; clear HQ28'
    have HQ30' := Lib.hid (HQ30.out.below hb); clear HQ30; have HQ30 := HQ30'; clear HQ30'
    have HB' := Lib.hid (HB.out.trans (hb.mono HB.out.size)); clear HB; have HB := HB'; clear HB'
    clear hb HYI
    go_upto_region 21 with (fail)
    have hbw := (Below.refl wn.heap.size wn).alloc (Nat.le_refl _) (.cells #[.int .i64 N33, .int .i64 D33] 25)
    have HQ330 := Lib.hid (Q2.new wn (.int .i64 N33) (.int .i64 D33) 25)
    have R17' := Lib.hid (rdN R17.out hbw)
    have R19' := Lib.hid (rdN R19.out hbw)
    have R21' := Lib.hid (rdN R21.out hbw)
    have R23' := Lib.hid (rdN R23.out hbw)
    clear R17; have R17 := R17'; clear R17'
    clear R19; have R19 := R19'; clear R19'
    clear R21; have R21 := R21'; clear R21'
    clear R23; have R23 := R23'; clear R23'
    have HQ5' := Lib.hid (HQ5.out.below hbw); clear HQ5; have HQ5 := HQ5'; clear HQ5'
    have HQ7' := Lib.hid (HQ7.out.below hbw); clear HQ7; have HQ7 := HQ7'; clear HQ7'
    have HQ9' := Lib.hid (HQ9.out.below hbw); clear HQ9; have HQ9 := HQ9'; clear HQ9'
    have HQ13' := Lib.hid (HQ13.out.below hbw); clear HQ13; have HQ13 := HQ13'; clear HQ13'
    have HQ15' := Lib.hid (HQ15.out.below hbw); clear HQ15; have HQ15 := HQ15'; clear HQ15'
    have HQ28' := Lib.hid (HQ28.out.below hbw); clear HQ28; have HQ28 := HQ28'; clear HQ28'
    have HQ30' := Lib.hid (HQ30.out.below hbw); clear HQ30; have HQ30 := HQ30'; clear HQ30'
    have HB' := Lib.hid (HB.out.trans (hbw.mono HB.out.size)); clear HB; have HB := HB'; clear HB'
    have HQ33 := HQ330; clear HQ330
    clear hbw
    generalize hq33 : wn.heap.size = q33 at *
    generalize wn.alloc (.cells #[.int .i64 N33, .int .i64 D33] 25) = wn at *
    clear hq33
    go_wp2_with fail
    refine (HYS.out _).mono ?_; rintro e wn ⟨rfl, hb⟩
    have R17' := Lib.hid (rdN R17.out hb)
    have R19' := Lib.hid (rdN R19.out hb)
    have R21' := Lib.hid (rdN R21.out hb)
    have R23' := Lib.hid (rdN R23.out hb)
    clear R17; have R17 := R17'; clear R17'
    clear R19; have R19 := R19'; clear R19'
    clear R21; have R21 := R21'; clear R21'
    clear R23; have R23 := R23'; clear R23'
    have HQ5' := Lib.hid (HQ5.out.below hb); clear HQ5; have HQ5 := HQ5'; clear HQ5'
    have HQ7' := Lib.hid (HQ7.out.below hb); clear HQ7; have HQ7 := HQ7'; clear HQ7'
    have HQ9' := Lib.hid (HQ9.out.below hb); clear HQ9; have HQ9 := HQ9'; clear HQ9'
    have HQ13' := Lib.hid (HQ13.out.below hb); clear HQ13; have HQ13 := HQ13'; clear HQ13'
    have HQ15' := Lib.hid (HQ15.out.below hb); clear HQ15; have HQ15 := HQ15'; clear HQ15'
    have HQ28' := Lib.hid (HQ28.out.below hb); clear HQ28; have HQ28 := HQ28'; clear HQ28'
    have HQ30' := Lib.hid (HQ30.out.below hb); clear HQ30; have HQ30 := HQ30'; clear HQ30'
    have HQ33' := Lib.hid (HQ33.out.below hb); clear HQ33; have HQ33 := HQ33'; clear HQ33'
    have HB' := Lib.hid (HB.out.trans (hb.mono HB.out.size)); clear HB; have HB := HB'; clear HB'
    clear hb HYS
    have hbw := (Below.refl wn.heap.size wn).alloc (Nat.le_refl _) (.cells #[.int .i64 N33, .int .i64 D33] 25)
    have hq35 := Q2.new wn (.int .i64 N33) (.int .i64 D33) 25
    obtain ⟨wA, hwA⟩ : ∃ z, wn.alloc (.cells #[.int .i64 N33, .int .i64 D33] 25) = z := ⟨_, rfl⟩
    rw [hwA] at hbw hq35
    have HQ350 := Lib.hid hq35; clear hq35
    have R17' := Lib.hid (rdN R17.out hbw)
    have R19' := Lib.hid (rdN R19.out hbw)
    have R21' := Lib.hid (rdN R21.out hbw)
    have R23' := Lib.hid (rdN R23.out hbw)
    clear R17; have R17 := R17'; clear R17'
    clear R19; have R19 := R19'; clear R19'
    clear R21; have R21 := R21'; clear R21'
    clear R23; have R23 := R23'; clear R23'
    have HQ5' := Lib.hid (HQ5.out.below hbw); clear HQ5; have HQ5 := HQ5'; clear HQ5'
    have HQ7' := Lib.hid (HQ7.out.below hbw); clear HQ7; have HQ7 := HQ7'; clear HQ7'
    have HQ9' := Lib.hid (HQ9.out.below hbw); clear HQ9; have HQ9 := HQ9'; clear HQ9'
    have HQ13' := Lib.hid (HQ13.out.below hbw); clear HQ13; have HQ13 := HQ13'; clear HQ13'
    have HQ15' := Lib.hid (HQ15.out.below hbw); clear HQ15; have HQ15 := HQ15'; clear HQ15'
    have HQ28' := Lib.hid (HQ28.out.below hbw); clear HQ28; have HQ28 := HQ28'; clear HQ28'
    have HQ30' := Lib.hid (HQ30.out.below hbw); clear HQ30; have HQ30 := HQ30'; clear HQ30'
    have HQ33' := Lib.hid (HQ33.out.below hbw); clear HQ33; have HQ33 := HQ33'; clear HQ33'
    have HB' := Lib.hid (HB.out.trans (hbw.mono HB.out.size)); clear HB; have HB := HB'; clear HB'
    have HQ35 := HQ350; clear HQ350
    clear hbw HC
    have hXe := HXe.out
    obtain ⟨c5a, c5b⟩ := HQ5.out.c
    obtain ⟨c7a, c7b⟩ := HQ7.out.c
    obtain ⟨c9a, c9b⟩ := HQ9.out.c
    obtain ⟨c13a, c13b⟩ := HQ13.out.c
    obtain ⟨c15a, c15b⟩ := HQ15.out.c
    have HF := Lib.hid (f6ints_sameD _ _ _ _ N19 _ _ _ R19.out R21.out (by omega) (fun _ _ => rfl))
    go_wp2_with fail
    refine HF.out.mono ?_; rintro e wm ⟨rfl, d, hd⟩
    have hb : Below wA.heap.size wA wm := by rw [hd]; exact below_drewN (Below.refl _ _) d
    clear HF
    have R17' := Lib.hid (rdN R17.out hb)
    have R19' := Lib.hid (rdN R19.out hb)
    have R21' := Lib.hid (rdN R21.out hb)
    have R23' := Lib.hid (rdN R23.out hb)
    clear R17; have R17 := R17'; clear R17'
    clear R19; have R19 := R19'; clear R19'
    clear R21; have R21 := R21'; clear R21'
    clear R23; have R23 := R23'; clear R23'
    have HQ5' := Lib.hid (HQ5.out.below hb); clear HQ5; have HQ5 := HQ5'; clear HQ5'
    have HQ7' := Lib.hid (HQ7.out.below hb); clear HQ7; have HQ7 := HQ7'; clear HQ7'
    have HQ9' := Lib.hid (HQ9.out.below hb); clear HQ9; have HQ9 := HQ9'; clear HQ9'
    have HQ13' := Lib.hid (HQ13.out.below hb); clear HQ13; have HQ13 := HQ13'; clear HQ13'
    have HQ15' := Lib.hid (HQ15.out.below hb); clear HQ15; have HQ15 := HQ15'; clear HQ15'
    have HQ28' := Lib.hid (HQ28.out.below hb); clear HQ28; have HQ28 := HQ28'; clear HQ28'
    have HQ30' := Lib.hid (HQ30.out.below hb); clear HQ30; have HQ30 := HQ30'; clear HQ30'
    have HQ33' := Lib.hid (HQ33.out.below hb); clear HQ33; have HQ33 := HQ33'; clear HQ33'
    have HQ35' := Lib.hid (HQ35.out.below hb); clear HQ35; have HQ35 := HQ35'; clear HQ35'
    have HB' := Lib.hid (HB.out.trans (hb.mono HB.out.size)); clear HB; have HB := HB'; clear HB'
    clear hb hd
    obtain ⟨wn, rfl⟩ : ∃ z, z = wm := ⟨_, rfl⟩
    clear c5a c5b c7a c7b c9a c9b c13a c13b c15a c15b
    clear R21
    clear HQ5
    clear HQ7
    clear HQ9
    clear HQ13
    clear HQ15
    obtain ⟨d0, d1⟩ := HQ28.out.c
    go_wp2_with fail
    refine (HXS.out _).mono ?_; rintro e wn ⟨rfl, hb⟩
    have R17' := Lib.hid (rdN R17.out hb)
    have R19' := Lib.hid (rdN R19.out hb)
    have R23' := Lib.hid (rdN R23.out hb)
    clear R17; have R17 := R17'; clear R17'
    clear R19; have R19 := R19'; clear R19'
    clear R23; have R23 := R23'; clear R23'
    have HQ28' := Lib.hid (HQ28.out.below hb); clear HQ28; have HQ28 := HQ28'; clear HQ28'
    have HQ30' := Lib.hid (HQ30.out.below hb); clear HQ30; have HQ30 := HQ30'; clear HQ30'
    have HQ33' := Lib.hid (HQ33.out.below hb); clear HQ33; have HQ33 := HQ33'; clear HQ33'
    have HQ35' := Lib.hid (HQ35.out.below hb); clear HQ35; have HQ35 := HQ35'; clear HQ35'
    have HB' := Lib.hid (HB.out.trans (hb.mono HB.out.size)); clear HB; have HB := HB'; clear HB'
    clear hb HXS d0 d1
    obtain ⟨c28a, c28b⟩ := HQ28.out.c
    obtain ⟨c30a, c30b⟩ := HQ30.out.c
    obtain ⟨c33a, c33b⟩ := HQ33.out.c
    obtain ⟨c35a, c35b⟩ := HQ35.out.c
    by_cases hc25 : C25 = 0
    · obtain ⟨hz6, hz1⟩ := HCZ.out hc25
      subst hc25
      have hz6' : (Cz == 6) = false := by simp [hz6]
      have hz1' : ¬ (N24 < 1) := by omega
      go_upto_region 24 with (fail)
      clear c28a c28b c30a c30b c33a c33b c35a c35b
      clear HCZ hz6
      clear HQ28
      clear HQ30
      clear HQ33
      clear HQ35
      go_wp2_with fail
      refine (HWI2.out _ R23.out).mono ?_; rintro e wn ⟨vz, rfl, ho, hb⟩
      have R17' := Lib.hid (rdN R17.out hb)
      have R19' := Lib.hid (rdN R19.out hb)
      have R23' := Lib.hid (rdN R23.out hb)
      clear R17; have R17 := R17'; clear R17'
      clear R19; have R19 := R19'; clear R19'
      clear R23; have R23 := R23'; clear R23'
      have HB' := Lib.hid (HB.out.trans (hb.mono HB.out.size)); clear HB; have HB := HB'; clear HB'
      obtain ⟨Az, cz, rfl⟩ := own_sl ho
      clear hb ho HWI2
      clear R23
      go_upto_region 28 with (fail)
      by_cases hc20 : C20 = 0
      · obtain ⟨_, hx1, hx2, hback⟩ := HWZ.out hc20
        have hN19 := HWn.out hc20
        subst hN19
        subst hc20
        have Hback := Lib.hid hback
        clear hback HWZ HWn
        go_wp2_with fail
        go_loopw [39] (fun i wr => ∃ k : Nat, k ≤ N19 ∧ i = .int .i64 (k : Int) ∧ Below wn.heap.size wn wr) (fun i _ => N19 - (intOf i).toNat)
        case atStart => exact ⟨0, by omega, rfl, Below.refl _ _⟩
        case round =>
          obtain ⟨k, hk, rfl, hbr⟩ := hrel
          have Hbr := Lib.hid hbr
          by_cases hlt : k < N19
          · have hlt' : (k : Int) < (N19 : Int) := by omega
            obtain ⟨b9, o9, hA, _, hcc⟩ := rdF_all (R19.out.below hbr) (show 0 < N19 by omega)
            subst hA
            have t2 := hcc k hlt
            have HPl := Lib.hid (fun wx => PlainI_any (f19 k) x18 wx)
            obtain ⟨g1, g2, g3⟩ := Hback.out k hlt
            unfold RetQC at HPl
            rw [g1, g2, g3] at HPl
            generalize f19 k = y at *
            clear hcc g1 g2 g3 hbr
            go_wp2_with fail
            refine (HPl.out _).mono ?_; rintro e w4 ⟨rfl, hb4⟩
            have hba := (Below.refl w4.heap.size w4).alloc (Nat.le_refl _) (.cells #[.int .i64 (a17 k), .int .i64 (b17 k)] 25)
            have HQz := Lib.hid (Q2.new w4 (.int .i64 (a17 k)) (.int .i64 (b17 k)) 25)
            have Hbz := Lib.hid (Hbr.out.trans ((hb4.trans (hba.mono hb4.size)).mono Hbr.out.size))
            clear hb4 hba t2
            go_upto_region 34 with (fail)
            obtain ⟨g7, o7, hA7, _, t0, t1⟩ := rdQ_at (R17.out.below Hbz.out) k hlt
            subst hA7
            generalize w4.alloc (.cells #[.int .i64 (a17 k), .int .i64 (b17 k)] 25) = w5 at *
            generalize w4.heap.size = q40 at *
            obtain ⟨z0, z1⟩ := HQz.out.c
            generalize a17 k = ya at *
            generalize b17 k = yb at *
            go_quiet (fail)
            have Hbq := Lib.hid (below_drewN Hbz.out nq)
            generalize w5.drewN nq = w6 at *
            clear t0 t1 z0 z1
            go_wp2_with fail
            go_roundw
            case rel => exact ⟨k + 1, by omega, by go_num, Hbq.out⟩
            case measure => first | (simp [intOf]; done) | (simp [intOf]; omega)
          · have hlt' : (N19 : Int) ≤ (k : Int) := by omega
            have Hfin := Lib.hid (HB.out.trans (Hbr.out.mono HB.out.size))
            go_wp2_with fail
            go_ret
            exact ⟨rfl, Hfin.out⟩
      · have hc20' : (C20 == 0) = false := by simp [hc20]
        have hc20'' : (C20 != 0) = true := by simp [hc20]
        clear HWZ HWn
        go_wp2_with fail
        go_ret
        exact ⟨rfl, HB.out⟩
    · have hc25' : (C25 == 0) = false := by simp [hc25]
      go_upto_region 24 with (fail)
      clear c28a c28b c30a c30b c33a c33b c35a c35b
      clear HCZ HWI2
      clear HQ28
      clear HQ30
      clear HQ33
      clear HQ35
      clear R23
      go_upto_region 28 with (fail)
      by_cases hc20 : C20 = 0
      · obtain ⟨_, hx1, hx2, hback⟩ := HWZ.out hc20
        have hN19 := HWn.out hc20
        subst hN19
        subst hc20
        have Hback := Lib.hid hback
        clear hback HWZ HWn
        go_wp2_with fail
        go_loopw [39] (fun i wr => ∃ k : Nat, k ≤ N19 ∧ i = .int .i64 (k : Int) ∧ Below wn.heap.size wn wr) (fun i _ => N19 - (intOf i).toNat)
        case atStart => exact ⟨0, by omega, rfl, Below.refl _ _⟩
        case round =>
          obtain ⟨k, hk, rfl, hbr⟩ := hrel
          have Hbr := Lib.hid hbr
          by_cases hlt : k < N19
          · have hlt' : (k : Int) < (N19 : Int) := by omega
            obtain ⟨b9, o9, hA, _, hcc⟩ := rdF_all (R19.out.below hbr) (show 0 < N19 by omega)
            subst hA
            have t2 := hcc k hlt
            have HPl := Lib.hid (fun wx => PlainI_any (f19 k) x18 wx)
            obtain ⟨g1, g2, g3⟩ := Hback.out k hlt
            unfold RetQC at HPl
            rw [g1, g2, g3] at HPl
            generalize f19 k = y at *
            clear hcc g1 g2 g3 hbr
            go_wp2_with fail
            refine (HPl.out _).mono ?_; rintro e w4 ⟨rfl, hb4⟩
            have hba := (Below.refl w4.heap.size w4).alloc (Nat.le_refl _) (.cells #[.int .i64 (a17 k), .int .i64 (b17 k)] 25)
            have HQz := Lib.hid (Q2.new w4 (.int .i64 (a17 k)) (.int .i64 (b17 k)) 25)
            have Hbz := Lib.hid (Hbr.out.trans ((hb4.trans (hba.mono hb4.size)).mono Hbr.out.size))
            clear hb4 hba t2
            go_upto_region 34 with (fail)
            obtain ⟨g7, o7, hA7, _, t0, t1⟩ := rdQ_at (R17.out.below Hbz.out) k hlt
            subst hA7
            generalize w4.alloc (.cells #[.int .i64 (a17 k), .int .i64 (b17 k)] 25) = w5 at *
            generalize w4.heap.size = q40 at *
            obtain ⟨z0, z1⟩ := HQz.out.c
            generalize a17 k = ya at *
            generalize b17 k = yb at *
            go_quiet (fail)
            have Hbq := Lib.hid (below_drewN Hbz.out nq)
            generalize w5.drewN nq = w6 at *
            clear t0 t1 z0 z1
            go_wp2_with fail
            go_roundw
            case rel => exact ⟨k + 1, by omega, by go_num, Hbq.out⟩
            case measure => first | (simp [intOf]; done) | (simp [intOf]; omega)
          · have hlt' : (N19 : Int) ≤ (k : Int) := by omega
            have Hfin := Lib.hid (HB.out.trans (Hbr.out.mono HB.out.size))
            go_wp2_with fail
            go_ret
            exact ⟨rfl, Hfin.out⟩
      · have hc20' : (C20 == 0) = false := by simp [hc20]
        have hc20'' : (C20 != 0) = true := by simp [hc20]
        clear HWZ HWn
        go_wp2_with fail
        go_ret
        exact ⟨rfl, HB.out⟩
  | true =>
    rw [ho28] at HXR HXe
    dsimp only [Option.getD, Option.isSome, Bool.not_true, Bool.not_false, if_true, if_false] at HXR HXe
    simp only [if_true, if_false, Bool.false_eq_true] at HXR
    clear ho28
    go_wp2_with fail
    refine (HXR.out _ (HTb.out _ HB.out)).mono ?_; rintro e wn ⟨rfl, hb⟩
    have R17' := Lib.hid (rdN R17.out hb)
    have R19' := Lib.hid (rdN R19.out hb)
    have R21' := Lib.hid (rdN R21.out hb)
    have R23' := Lib.hid (rdN R23.out hb)
    clear R17; have R17 := R17'; clear R17'
    clear R19; have R19 := R19'; clear R19'
    clear R21; have R21 := R21'; clear R21'
    clear R23; have R23 := R23'; clear R23'
    have HQ5' := Lib.hid (HQ5.out.below hb); clear HQ5; have HQ5 := HQ5'; clear HQ5'
    have HQ7' := Lib.hid (HQ7.out.below hb); clear HQ7; have HQ7 := HQ7'; clear HQ7'
    have HQ9' := Lib.hid (HQ9.out.below hb); clear HQ9; have HQ9 := HQ9'; clear HQ9'
    have HQ13' := Lib.hid (HQ13.out.below hb); clear HQ13; have HQ13 := HQ13'; clear HQ13'
    have HQ15' := Lib.hid (HQ15.out.below hb); clear HQ15; have HQ15 := HQ15'; clear HQ15'
    have HQ28' := Lib.hid (HQ28.out.below hb); clear HQ28; have HQ28 := HQ28'; clear HQ28'
    have HB' := Lib.hid (HB.out.trans (hb.mono HB.out.size)); clear HB; have HB := HB'; clear HB'
    clear hb HXR
    go_upto_region 19 with (fail)
    have hbw := (Below.refl wn.heap.size wn).alloc (Nat.le_refl _) (.cells #[.int .i64 N28, .int .i64 D28] 25)
    have HQ300 := Lib.hid (Q2.new wn (.int .i64 N28) (.int .i64 D28) 25)
    have R17' := Lib.hid (rdN R17.out hbw)
    have R19' := Lib.hid (rdN R19.out hbw)
    have R21' := Lib.hid (rdN R21.out hbw)
    have R23' := Lib.hid (rdN R23.out hbw)
    clear R17; have R17 := R17'; clear R17'
    clear R19; have R19 := R19'; clear R19'
    clear R21; have R21 := R21'; clear R21'
    clear R23; have R23 := R23'; clear R23'
    have HQ5' := Lib.hid (HQ5.out.below hbw); clear HQ5; have HQ5 := HQ5'; clear HQ5'
    have HQ7' := Lib.hid (HQ7.out.below hbw); clear HQ7; have HQ7 := HQ7'; clear HQ7'
    have HQ9' := Lib.hid (HQ9.out.below hbw); clear HQ9; have HQ9 := HQ9'; clear HQ9'
    have HQ13' := Lib.hid (HQ13.out.below hbw); clear HQ13; have HQ13 := HQ13'; clear HQ13'
    have HQ15' := Lib.hid (HQ15.out.below hbw); clear HQ15; have HQ15 := HQ15'; clear HQ15'
    have HQ28' := Lib.hid (HQ28.out.below hbw); clear HQ28; have HQ28 := HQ28'; clear HQ28'
    have HB' := Lib.hid (HB.out.trans (hbw.mono HB.out.size)); clear HB; have HB := HB'; clear HB'
    have HQ30 := HQ300; clear HQ300
    clear hbw
    generalize hq30 : wn.heap.size = q30 at *
    generalize wn.alloc (.cells #[.int .i64 N28, .int .i64 D28] 25) = wn at *
    clear hq30
    go_wp2_with fail
    refine (DrawReadFraction_a _ _ bs _ (HC.out.below HB.out) HB.out.size).mono ?_; rintro e wn ⟨s32, rfl, hs32, hb⟩
    have R17' := Lib.hid (rdN R17.out hb)
    have R19' := Lib.hid (rdN R19.out hb)
    have R21' := Lib.hid (rdN R21.out hb)
    have R23' := Lib.hid (rdN R23.out hb)
    clear R17; have R17 := R17'; clear R17'
    clear R19; have R19 := R19'; clear R19'
    clear R21; have R21 := R21'; clear R21'
    clear R23; have R23 := R23'; clear R23'
    have HQ5' := Lib.hid (HQ5.out.below hb); clear HQ5; have HQ5 := HQ5'; clear HQ5'
    have HQ7' := Lib.hid (HQ7.out.below hb); clear HQ7; have HQ7 := HQ7'; clear HQ7'
    have HQ9' := Lib.hid (HQ9.out.below hb); clear HQ9; have HQ9 := HQ9'; clear HQ9'
    have HQ13' := Lib.hid (HQ13.out.below hb); clear HQ13; have HQ13 := HQ13'; clear HQ13'
    have HQ15' := Lib.hid (HQ15.out.below hb); clear HQ15; have HQ15 := HQ15'; clear HQ15'
    have HQ28' := Lib.hid (HQ28.out.below hb); clear HQ28; have HQ28 := HQ28'; clear HQ28'
    have HQ30' := Lib.hid (HQ30.out.below hb); clear HQ30; have HQ30 := HQ30'; clear HQ30'
    have HB' := Lib.hid (HB.out.trans (hb.mono HB.out.size)); clear HB; have HB := HB'; clear HB'
    clear hb
    have HYI := Lib.hid (fun wx hx => ReadFI_any s32 wx (by omega) hx)
    have HYS := Lib.hid (fun wx => ReadFS_any s32 wx (by omega))
    unfold RetRF at HYI HYS
    generalize ((rdFr s32).getD (0, 0)).1 = N33 at *
    generalize ((rdFr s32).getD (0, 0)).2 = D33 at *
    generalize (rdFr s32).isSome = b34 at *
    go_wp2_with fail
    refine (HYI.out _ (HTb.out _ HB.out)).mono ?_; rintro e wn ⟨rfl, hb⟩
    have R17' := Lib.hid (rdN R17.out hb)
    have R19' := Lib.hid (rdN R19.out hb)
    have R21' := Lib.hid (rdN R21.out hb)
    have R23' := Lib.hid (rdN R23.out hb)
    clear R17; have R17 := R17'; clear R17'
    clear R19; have R19 := R19'; clear R19'
    clear R21; have R21 := R21'; clear R21'
    clear R23; have R23 := R23'; clear R23'
    have HQ5' := Lib.hid (HQ5.out.below hb); clear HQ5; have HQ5 := HQ5'; clear HQ5'
    have HQ7' := Lib.hid (HQ7.out.below hb); clear HQ7; have HQ7 := HQ7'; clear HQ7'
    have HQ9' := Lib.hid (HQ9.out.below hb); clear HQ9; have HQ9 := HQ9'; clear HQ9'
    have HQ13' := Lib.hid (HQ13.out.below hb); clear HQ13; have HQ13 := HQ13'; clear HQ13'
    have HQ15' := Lib.hid (HQ15.out.below hb); clear HQ15; have HQ15 := HQ15'; clear HQ15'
    have HQ28' := Lib.hid (HQ28.out.below hb); clear HQ28; have HQ28 := HQ28'; clear HQ28'
    have HQ30' := Lib.hid (HQ30.out.below hb); clear HQ30; have HQ30 := HQ30'; clear HQ30'
    have HB' := Lib.hid (HB.out.trans (hb.mono HB.out.size)); clear HB; have HB := HB'; clear HB'
    clear hb HYI
    go_upto_region 21 with (fail)
    have hbw := (Below.refl wn.heap.size wn).alloc (Nat.le_refl _) (.cells #[.int .i64 N33, .int .i64 D33] 25)
    have HQ330 := Lib.hid (Q2.new wn (.int .i64 N33) (.int .i64 D33) 25)
    have R17' := Lib.hid (rdN R17.out hbw)
    have R19' := Lib.hid (rdN R19.out hbw)
    have R21' := Lib.hid (rdN R21.out hbw)
    have R23' := Lib.hid (rdN R23.out hbw)
    clear R17; have R17 := R17'; clear R17'
    clear R19; have R19 := R19'; clear R19'
    clear R21; have R21 := R21'; clear R21'
    clear R23; have R23 := R23'; clear R23'
    have HQ5' := Lib.hid (HQ5.out.below hbw); clear HQ5; have HQ5 := HQ5'; clear HQ5'
    have HQ7' := Lib.hid (HQ7.out.below hbw); clear HQ7; have HQ7 := HQ7'; clear HQ7'
    have HQ9' := Lib.hid (HQ9.out.below hbw); clear HQ9; have HQ9 := HQ9'; clear HQ9'
    have HQ13' := Lib.hid (HQ13.out.below hbw); clear HQ13; have HQ13 := HQ13'; clear HQ13'
    have HQ15' := Lib.hid (HQ15.out.below hbw); clear HQ15; have HQ15 := HQ15'; clear HQ15'
    have HQ28' := Lib.hid (HQ28.out.below hbw); clear HQ28; have HQ28 := HQ28'; clear HQ28'
    have HQ30' := Lib.hid (HQ30.out.below hbw); clear HQ30; have HQ30 := HQ30'; clear HQ30'
    have HB' := Lib.hid (HB.out.trans (hbw.mono HB.out.size)); clear HB; have HB := HB'; clear HB'
    have HQ33 := HQ330; clear HQ330
    clear hbw
    generalize hq33 : wn.heap.size = q33 at *
    generalize wn.alloc (.cells #[.int .i64 N33, .int .i64 D33] 25) = wn at *
    clear hq33
    go_wp2_with fail
    refine (HYS.out _).mono ?_; rintro e wn ⟨rfl, hb⟩
    have R17' := Lib.hid (rdN R17.out hb)
    have R19' := Lib.hid (rdN R19.out hb)
    have R21' := Lib.hid (rdN R21.out hb)
    have R23' := Lib.hid (rdN R23.out hb)
    clear R17; have R17 := R17'; clear R17'
    clear R19; have R19 := R19'; clear R19'
    clear R21; have R21 := R21'; clear R21'
    clear R23; have R23 := R23'; clear R23'
    have HQ5' := Lib.hid (HQ5.out.below hb); clear HQ5; have HQ5 := HQ5'; clear HQ5'
    have HQ7' := Lib.hid (HQ7.out.below hb); clear HQ7; have HQ7 := HQ7'; clear HQ7'
    have HQ9' := Lib.hid (HQ9.out.below hb); clear HQ9; have HQ9 := HQ9'; clear HQ9'
    have HQ13' := Lib.hid (HQ13.out.below hb); clear HQ13; have HQ13 := HQ13'; clear HQ13'
    have HQ15' := Lib.hid (HQ15.out.below hb); clear HQ15; have HQ15 := HQ15'; clear HQ15'
    have HQ28' := Lib.hid (HQ28.out.below hb); clear HQ28; have HQ28 := HQ28'; clear HQ28'
    have HQ30' := Lib.hid (HQ30.out.below hb); clear HQ30; have HQ30 := HQ30'; clear HQ30'
    have HQ33' := Lib.hid (HQ33.out.below hb); clear HQ33; have HQ33 := HQ33'; clear HQ33'
    have HB' := Lib.hid (HB.out.trans (hb.mono HB.out.size)); clear HB; have HB := HB'; clear HB'
    clear hb HYS
    have hbw := (Below.refl wn.heap.size wn).alloc (Nat.le_refl _) (.cells #[.int .i64 N33, .int .i64 D33] 25)
    have hq35 := Q2.new wn (.int .i64 N33) (.int .i64 D33) 25
    obtain ⟨wA, hwA⟩ : ∃ z, wn.alloc (.cells #[.int .i64 N33, .int .i64 D33] 25) = z := ⟨_, rfl⟩
    rw [hwA] at hbw hq35
    have HQ350 := Lib.hid hq35; clear hq35
    have R17' := Lib.hid (rdN R17.out hbw)
    have R19' := Lib.hid (rdN R19.out hbw)
    have R21' := Lib.hid (rdN R21.out hbw)
    have R23' := Lib.hid (rdN R23.out hbw)
    clear R17; have R17 := R17'; clear R17'
    clear R19; have R19 := R19'; clear R19'
    clear R21; have R21 := R21'; clear R21'
    clear R23; have R23 := R23'; clear R23'
    have HQ5' := Lib.hid (HQ5.out.below hbw); clear HQ5; have HQ5 := HQ5'; clear HQ5'
    have HQ7' := Lib.hid (HQ7.out.below hbw); clear HQ7; have HQ7 := HQ7'; clear HQ7'
    have HQ9' := Lib.hid (HQ9.out.below hbw); clear HQ9; have HQ9 := HQ9'; clear HQ9'
    have HQ13' := Lib.hid (HQ13.out.below hbw); clear HQ13; have HQ13 := HQ13'; clear HQ13'
    have HQ15' := Lib.hid (HQ15.out.below hbw); clear HQ15; have HQ15 := HQ15'; clear HQ15'
    have HQ28' := Lib.hid (HQ28.out.below hbw); clear HQ28; have HQ28 := HQ28'; clear HQ28'
    have HQ30' := Lib.hid (HQ30.out.below hbw); clear HQ30; have HQ30 := HQ30'; clear HQ30'
    have HQ33' := Lib.hid (HQ33.out.below hbw); clear HQ33; have HQ33 := HQ33'; clear HQ33'
    have HB' := Lib.hid (HB.out.trans (hbw.mono HB.out.size)); clear HB; have HB := HB'; clear HB'
    have HQ35 := HQ350; clear HQ350
    clear hbw HC
    have hXe := HXe.out
    obtain ⟨c5a, c5b⟩ := HQ5.out.c
    obtain ⟨c7a, c7b⟩ := HQ7.out.c
    obtain ⟨c9a, c9b⟩ := HQ9.out.c
    obtain ⟨c13a, c13b⟩ := HQ13.out.c
    obtain ⟨c15a, c15b⟩ := HQ15.out.c
    have HF := Lib.hid (f6ints_sameD _ _ _ _ N19 _ _ _ R19.out R21.out (by omega) (fun _ _ => rfl))
    go_wp2_with fail
    refine HF.out.mono ?_; rintro e wm ⟨rfl, d, hd⟩
    have hb : Below wA.heap.size wA wm := by rw [hd]; exact below_drewN (Below.refl _ _) d
    clear HF
    have R17' := Lib.hid (rdN R17.out hb)
    have R19' := Lib.hid (rdN R19.out hb)
    have R21' := Lib.hid (rdN R21.out hb)
    have R23' := Lib.hid (rdN R23.out hb)
    clear R17; have R17 := R17'; clear R17'
    clear R19; have R19 := R19'; clear R19'
    clear R21; have R21 := R21'; clear R21'
    clear R23; have R23 := R23'; clear R23'
    have HQ5' := Lib.hid (HQ5.out.below hb); clear HQ5; have HQ5 := HQ5'; clear HQ5'
    have HQ7' := Lib.hid (HQ7.out.below hb); clear HQ7; have HQ7 := HQ7'; clear HQ7'
    have HQ9' := Lib.hid (HQ9.out.below hb); clear HQ9; have HQ9 := HQ9'; clear HQ9'
    have HQ13' := Lib.hid (HQ13.out.below hb); clear HQ13; have HQ13 := HQ13'; clear HQ13'
    have HQ15' := Lib.hid (HQ15.out.below hb); clear HQ15; have HQ15 := HQ15'; clear HQ15'
    have HQ28' := Lib.hid (HQ28.out.below hb); clear HQ28; have HQ28 := HQ28'; clear HQ28'
    have HQ30' := Lib.hid (HQ30.out.below hb); clear HQ30; have HQ30 := HQ30'; clear HQ30'
    have HQ33' := Lib.hid (HQ33.out.below hb); clear HQ33; have HQ33 := HQ33'; clear HQ33'
    have HQ35' := Lib.hid (HQ35.out.below hb); clear HQ35; have HQ35 := HQ35'; clear HQ35'
    have HB' := Lib.hid (HB.out.trans (hb.mono HB.out.size)); clear HB; have HB := HB'; clear HB'
    clear hb hd
    obtain ⟨wn, rfl⟩ : ∃ z, z = wm := ⟨_, rfl⟩
    clear c5a c5b c7a c7b c9a c9b c13a c13b c15a c15b
    clear R21
    clear HQ5
    clear HQ7
    clear HQ9
    clear HQ13
    clear HQ15
    obtain ⟨d0, d1⟩ := HQ28.out.c
    go_wp2_with fail
    refine (HXS.out _).mono ?_; rintro e wn ⟨rfl, hb⟩
    have R17' := Lib.hid (rdN R17.out hb)
    have R19' := Lib.hid (rdN R19.out hb)
    have R23' := Lib.hid (rdN R23.out hb)
    clear R17; have R17 := R17'; clear R17'
    clear R19; have R19 := R19'; clear R19'
    clear R23; have R23 := R23'; clear R23'
    have HQ28' := Lib.hid (HQ28.out.below hb); clear HQ28; have HQ28 := HQ28'; clear HQ28'
    have HQ30' := Lib.hid (HQ30.out.below hb); clear HQ30; have HQ30 := HQ30'; clear HQ30'
    have HQ33' := Lib.hid (HQ33.out.below hb); clear HQ33; have HQ33 := HQ33'; clear HQ33'
    have HQ35' := Lib.hid (HQ35.out.below hb); clear HQ35; have HQ35 := HQ35'; clear HQ35'
    have HB' := Lib.hid (HB.out.trans (hb.mono HB.out.size)); clear HB; have HB := HB'; clear HB'
    clear hb HXS d0 d1
    obtain ⟨c28a, c28b⟩ := HQ28.out.c
    obtain ⟨c30a, c30b⟩ := HQ30.out.c
    obtain ⟨c33a, c33b⟩ := HQ33.out.c
    obtain ⟨c35a, c35b⟩ := HQ35.out.c
    by_cases hc25 : C25 = 0
    · obtain ⟨hz6, hz1⟩ := HCZ.out hc25
      subst hc25
      have hz6' : (Cz == 6) = false := by simp [hz6]
      have hz1' : ¬ (N24 < 1) := by omega
      go_upto_region 24 with (fail)
      clear c28a c28b c30a c30b c33a c33b c35a c35b
      clear HCZ hz6
      clear HQ28
      clear HQ30
      clear HQ33
      clear HQ35
      go_wp2_with fail
      refine (HWI2.out _ R23.out).mono ?_; rintro e wn ⟨vz, rfl, ho, hb⟩
      have R17' := Lib.hid (rdN R17.out hb)
      have R19' := Lib.hid (rdN R19.out hb)
      have R23' := Lib.hid (rdN R23.out hb)
      clear R17; have R17 := R17'; clear R17'
      clear R19; have R19 := R19'; clear R19'
      clear R23; have R23 := R23'; clear R23'
      have HB' := Lib.hid (HB.out.trans (hb.mono HB.out.size)); clear HB; have HB := HB'; clear HB'
      obtain ⟨Az, cz, rfl⟩ := own_sl ho
      clear hb ho HWI2
      clear R23
      go_upto_region 28 with (fail)
      by_cases hc20 : C20 = 0
      · obtain ⟨_, hx1, hx2, hback⟩ := HWZ.out hc20
        have hN19 := HWn.out hc20
        subst hN19
        subst hc20
        have Hback := Lib.hid hback
        clear hback HWZ HWn
        go_wp2_with fail
        go_loopw [39] (fun i wr => ∃ k : Nat, k ≤ N19 ∧ i = .int .i64 (k : Int) ∧ Below wn.heap.size wn wr) (fun i _ => N19 - (intOf i).toNat)
        case atStart => exact ⟨0, by omega, rfl, Below.refl _ _⟩
        case round =>
          obtain ⟨k, hk, rfl, hbr⟩ := hrel
          have Hbr := Lib.hid hbr
          by_cases hlt : k < N19
          · have hlt' : (k : Int) < (N19 : Int) := by omega
            obtain ⟨b9, o9, hA, _, hcc⟩ := rdF_all (R19.out.below hbr) (show 0 < N19 by omega)
            subst hA
            have t2 := hcc k hlt
            have HPl := Lib.hid (fun wx => PlainI_any (f19 k) x18 wx)
            obtain ⟨g1, g2, g3⟩ := Hback.out k hlt
            unfold RetQC at HPl
            rw [g1, g2, g3] at HPl
            generalize f19 k = y at *
            clear hcc g1 g2 g3 hbr
            go_wp2_with fail
            refine (HPl.out _).mono ?_; rintro e w4 ⟨rfl, hb4⟩
            have hba := (Below.refl w4.heap.size w4).alloc (Nat.le_refl _) (.cells #[.int .i64 (a17 k), .int .i64 (b17 k)] 25)
            have HQz := Lib.hid (Q2.new w4 (.int .i64 (a17 k)) (.int .i64 (b17 k)) 25)
            have Hbz := Lib.hid (Hbr.out.trans ((hb4.trans (hba.mono hb4.size)).mono Hbr.out.size))
            clear hb4 hba t2
            go_upto_region 34 with (fail)
            obtain ⟨g7, o7, hA7, _, t0, t1⟩ := rdQ_at (R17.out.below Hbz.out) k hlt
            subst hA7
            generalize w4.alloc (.cells #[.int .i64 (a17 k), .int .i64 (b17 k)] 25) = w5 at *
            generalize w4.heap.size = q40 at *
            obtain ⟨z0, z1⟩ := HQz.out.c
            generalize a17 k = ya at *
            generalize b17 k = yb at *
            go_quiet (fail)
            have Hbq := Lib.hid (below_drewN Hbz.out nq)
            generalize w5.drewN nq = w6 at *
            clear t0 t1 z0 z1
            go_wp2_with fail
            go_roundw
            case rel => exact ⟨k + 1, by omega, by go_num, Hbq.out⟩
            case measure => first | (simp [intOf]; done) | (simp [intOf]; omega)
          · have hlt' : (N19 : Int) ≤ (k : Int) := by omega
            have Hfin := Lib.hid (HB.out.trans (Hbr.out.mono HB.out.size))
            go_wp2_with fail
            go_ret
            exact ⟨rfl, Hfin.out⟩
      · have hc20' : (C20 == 0) = false := by simp [hc20]
        have hc20'' : (C20 != 0) = true := by simp [hc20]
        clear HWZ HWn
        go_wp2_with fail
        go_ret
        exact ⟨rfl, HB.out⟩
    · have hc25' : (C25 == 0) = false := by simp [hc25]
      go_upto_region 24 with (fail)
      clear c28a c28b c30a c30b c33a c33b c35a c35b
      clear HCZ HWI2
      clear HQ28
      clear HQ30
      clear HQ33
      clear HQ35
      clear R23
      go_upto_region 28 with (fail)
      by_cases hc20 : C20 = 0
      · obtain ⟨_, hx1, hx2, hback⟩ := HWZ.out hc20
        have hN19 := HWn.out hc20
        subst hN19
        subst hc20
        have Hback := Lib.hid hback
        clear hback HWZ HWn
        go_wp2_with fail
        go_loopw [39] (fun i wr => ∃ k : Nat, k ≤ N19 ∧ i = .int .i64 (k : Int) ∧ Below wn.heap.size wn wr) (fun i _ => N19 - (intOf i).toNat)
        case atStart => exact ⟨0, by omega, rfl, Below.refl _ _⟩
        case round =>
          obtain ⟨k, hk, rfl, hbr⟩ := hrel
          have Hbr := Lib.hid hbr
          by_cases hlt : k < N19
          · have hlt' : (k : Int) < (N19 : Int) := by omega
            obtain ⟨b9, o9, hA, _, hcc⟩ := rdF_all (R19.out.below hbr) (show 0 < N19 by omega)
            subst hA
            have t2 := hcc k hlt
            have HPl := Lib.hid (fun wx => PlainI_any (f19 k) x18 wx)
            obtain ⟨g1, g2, g3⟩ := Hback.out k hlt
            unfold RetQC at HPl
            rw [g1, g2, g3] at HPl
            generalize f19 k = y at *
            clear hcc g1 g2 g3 hbr
            go_wp2_with fail
            refine (HPl.out _).mono ?_; rintro e w4 ⟨rfl, hb4⟩
            have hba := (Below.refl w4.heap.size w4).alloc (Nat.le_refl _) (.cells #[.int .i64 (a17 k), .int .i64 (b17 k)] 25)
            have HQz := Lib.hid (Q2.new w4 (.int .i64 (a17 k)) (.int .i64 (b17 k)) 25)
            have Hbz := Lib.hid (Hbr.out.trans ((hb4.trans (hba.mono hb4.size)).mono Hbr.out.size))
            clear hb4 hba t2
            go_upto_region 34 with (fail)
            obtain ⟨g7, o7, hA7, _, t0, t1⟩ := rdQ_at (R17.out.below Hbz.out) k hlt
            subst hA7
            generalize w4.alloc (.cells #[.int .i64 (a17 k), .int .i64 (b17 k)] 25) = w5 at *
            generalize w4.heap.size = q40 at *
            obtain ⟨z0, z1⟩ := HQz.out.c
            generalize a17 k = ya at *
            generalize b17 k = yb at *
            go_quiet (fail)
            have Hbq := Lib.hid (below_drewN Hbz.out nq)
            generalize w5.drewN nq = w6 at *
            clear t0 t1 z0 z1
            go_wp2_with fail
            go_roundw
            case rel => exact ⟨k + 1, by omega, by go_num, Hbq.out⟩
            case measure => first | (simp [intOf]; done) | (simp [intOf]; omega)
          · have hlt' : (N19 : Int) ≤ (k : Int) := by omega
            have Hfin := Lib.hid (HB.out.trans (Hbr.out.mono HB.out.size))
            go_wp2_with fail
            go_ret
            exact ⟨rfl, Hfin.out⟩
      · have hc20' : (C20 == 0) = false := by simp [hc20]
        have hc20'' : (C20 != 0) = true := by simp [hc20]
        clear HWZ HWn
        go_wp2_with fail
        go_ret
        exact ⟨rfl, HB.out⟩
end Go.Proofs.YtmeenihnhfhbkaaDoor
