/- Merged texts: Dp8. -/
import Derived.Test.YtiddhelabmaghaaDoorGCardPrograms3
import Derived.Test.YtiddhelabmaghaaDoorGCardPrograms5
/- The law FnPrograms: the walk. -/
namespace Go.Proofs.YtiddhelabmaghaaDoor
open Go.RowKit Go.Joins

theorem below_eq {w w' : World} {n : Nat} (h : w' = w.drewN n) : Below w.heap.size w w' := by rw [h]; exact below_drewN (Below.refl _ _) n
theorem linesP_sz {l : List (Int × Int)} : ∀ z ∈ linesP l, z.size ≤ 1048576 := by
  unfold linesP
  split
  · rename_i h
    intro z hz
    obtain ⟨x, hx, rfl⟩ := List.mem_map.1 hz
    exact Nat.le_trans (lineZ_size ((okProg_all h).1 x hx)) (by omega)
  · simp

set_option maxRecDepth 100000 in
set_option maxHeartbeats 6400000 in
theorem walkFnPrograms {W : World} (v : Value) (bs : List UInt8) (h : Rd W W.heap.size v bs.length 1 (bs.map byV)) (_hl : bs.length ≤ maxLen) (ht : Tab W) :
    Calls Tryd.prog 5 #[v] W fun e w' => e = .returned (.bool true) ∧ Below W.heap.size W w' := by
  have HB := Lib.hid (Below.refl W.heap.size W)
  have HC := Lib.hid h
  have Ht := Lib.hid ht; clear ht
  have HG := Lib.hid (f6big_any _ _ v _ W h)
  obtain ⟨_, A0, c0, rfl, _⟩ := h
  by_cases hbig : 4096 < bs.length
  · rw [decide_eq_true hbig] at HG
    clear hbig
    go_enter Tryd.func5, Tryd.ntmps5
    go_wp2_with fail
    refine HG.out.mono ?_; rintro e w1 ⟨rfl, rfl⟩
    go_wp2_with fail
    go_ret
    exact ⟨rfl, HB.out⟩
  rw [decide_eq_false hbig] at HG
  clear hbig
  go_enter Tryd.func5, Tryd.ntmps5
  go_wp2_with fail
  refine HG.out.mono ?_; rintro e w1 ⟨rfl, rfl⟩
  clear HG
  go_wp2_with fail
  refine (drawPL_any _ _ bs _ (HC.out.below HB.out) HB.out.size).mono ?_; rintro e wn ⟨v3, list, rfl, ho, hll, hb⟩
  have RL0 := Lib.hid (Rd.of_own ho)
  have HB' := Lib.hid (HB.out.trans (hb.mono HB.out.size)); clear HB; have HB := HB'; clear HB'
  have RL := RL0; clear RL0
  obtain ⟨A3, c3, rfl⟩ := sl_of_own2 ho
  clear ho hb
  have hl1 : list.length ≤ 1048576 := by omega
  have Hln := Lib.hid (linesP_len list)
  have HLI := Lib.hid (fun wx (hx : Rd wx wx.heap.size (.slice A3 list.length c3) list.length 2 (progs list)) hq => LinesI_any _ _ list wx hx (Nat.le_refl _) hl1 hq)
  have HLS := Lib.hid (fun wx (hx : Rd wx wx.heap.size (.slice A3 list.length c3) list.length 2 (progs list)) => LinesS_any _ _ list wx hx (Nat.le_refl _) hl1)
  have HVI := Lib.hid (fun wx (hx : Rd wx wx.heap.size (.slice A3 list.length c3) list.length 2 (progs list)) => ValidProgram_any _ _ list wx hx (Nat.le_refl _) hl1)
  have HVS := Lib.hid (fun wx (hx : Rd wx wx.heap.size (.slice A3 list.length c3) list.length 2 (progs list)) => ValidPS_any _ _ list wx hx hl1)
  have hln : (linesP list).length ≤ 1048576 := by have := Hln.out; omega
  have Hsz := Lib.hid (linesP_sz (l := list))
  have HRB := Lib.hid (fun wx v (hx : Rd wx wx.heap.size v (linesP list).length 1 (strs (linesP list))) hq => ReadPI_any _ v (linesP list) wx hx (Nat.le_refl _) hln Hsz.out hq)
  have HFT := Lib.hid (fun wx v1 v2 (h1 : Rd wx wx.heap.size v1 (linesP list).length 1 (strs (linesP list))) (h2 : Rd wx wx.heap.size v2 (linesP list).length 1 (strs (linesP list))) => f6texts_same _ _ v1 v2 (linesP list) wx h1 h2 hln)
  have Hback := Lib.hid (fun h => back_ok (l := list) h)
  have Hcode := Lib.hid (show (codeP list = 0 ∧ okProg list = true) ∨ (codeP list = 1 ∧ okProg list = false) by unfold codeP; cases okProg list <;> simp)
  unfold RetP at HLI HLS
  unfold RetR at HRB
  generalize linesP list = LN at *
  generalize codeP list = cP at *
  go_wp2_with fail
  refine (HLI.out _ RL.out (Ht.out.below HB.out)).mono ?_; rintro e wn ⟨v4, rfl, ho, hb⟩
  have RN0 := Lib.hid (Rd.of_own ho)
  have RL' := Lib.hid (rdN RL.out hb)
  clear RL; have RL := RL'; clear RL'
  have HB' := Lib.hid (HB.out.trans (hb.mono HB.out.size)); clear HB; have HB := HB'; clear HB'
  have RN := RN0; clear RN0
  obtain ⟨A4, c4, rfl⟩ := sl_of_own2 ho
  clear ho hb
  go_wp2_with fail
  refine (HLS.out _ RL.out).mono ?_; rintro e wn ⟨v6, rfl, ho, hb⟩
  have RM0 := Lib.hid (Rd.of_own ho)
  have RL' := Lib.hid (rdN RL.out hb)
  have RN' := Lib.hid (rdN RN.out hb)
  clear RL; have RL := RL'; clear RL'
  clear RN; have RN := RN'; clear RN'
  have HB' := Lib.hid (HB.out.trans (hb.mono HB.out.size)); clear HB; have HB := HB'; clear HB'
  have RM := RM0; clear RM0
  obtain ⟨A6, c6, rfl⟩ := sl_of_own2 ho
  clear ho hb HLI HLS
  go_wp2_with fail
  refine (drawCP_any _ _ bs _ (HC.out.below HB.out) HB.out.size).mono ?_; rintro e wn ⟨v8, zs, rfl, ho, hzl, hzs, hb⟩
  have RS0 := Lib.hid (Rd.of_own ho)
  have RL' := Lib.hid (rdN RL.out hb)
  have RN' := Lib.hid (rdN RN.out hb)
  have RM' := Lib.hid (rdN RM.out hb)
  clear RL; have RL := RL'; clear RL'
  clear RN; have RN := RN'; clear RN'
  clear RM; have RM := RM'; clear RM'
  have HB' := Lib.hid (HB.out.trans (hb.mono HB.out.size)); clear HB; have HB := HB'; clear HB'
  have RS := RS0; clear RS0
  obtain ⟨A8, c8, rfl⟩ := sl_of_own2 ho
  clear ho hb
  have hz1 : zs.length ≤ 1048576 := by omega
  have Hzs := Lib.hid hzs; clear hzs
  have HKI := Lib.hid (fun wx (hx : Rd wx wx.heap.size (.slice A8 zs.length c8) zs.length 1 (strs zs)) hq => CheckPI_any _ _ zs wx hx (Nat.le_refl _) hz1 Hzs.out hq)
  have HKS := Lib.hid (fun wx (hx : Rd wx wx.heap.size (.slice A8 zs.length c8) zs.length 1 (strs zs)) => CheckPS_any _ _ zs wx hx (Nat.le_refl _) hz1 Hzs.out)
  have HRI := Lib.hid (fun wx (hx : Rd wx wx.heap.size (.slice A8 zs.length c8) zs.length 1 (strs zs)) hq => ReadPI_any _ _ zs wx hx (Nat.le_refl _) hz1 Hzs.out hq)
  have HRS := Lib.hid (fun wx (hx : Rd wx wx.heap.size (.slice A8 zs.length c8) zs.length 1 (strs zs)) => ReadPS_any _ _ zs wx hx (Nat.le_refl _) hz1 Hzs.out)
  have HFZ := Lib.hid (fun wx v1 (h1 : Rd wx wx.heap.size v1 zs.length 1 (strs zs)) (h2 : Rd wx wx.heap.size (.slice A8 zs.length c8) zs.length 1 (strs zs)) => f6texts_same _ _ v1 _ zs wx h1 h2 hz1)
  unfold RetK at HKI HKS
  unfold RetR at HRI HRS
  have Hck := Lib.hid (chk_cod zs)
  have Hrd := Lib.hid (fun h => read_ok (zs := zs) h)
  have hxl : (resR zs).length ≤ 1048576 := by have := resR_len zs; omega
  have HXI := Lib.hid (fun wx v (hx : Rd wx wx.heap.size v (resR zs).length 2 (progs (resR zs))) hq => LinesI_any _ v (resR zs) wx hx (Nat.le_refl _) hxl hq)
  have HXV := Lib.hid (fun wx v (hx : Rd wx wx.heap.size v (resR zs).length 2 (progs (resR zs))) => ValidProgram_any _ v (resR zs) wx hx (Nat.le_refl _) hxl)
  have HXX := Lib.hid (fun wx v1 v2 (h1 : Rd wx wx.heap.size v1 (resR zs).length 2 (progs (resR zs))) (h2 : Rd wx wx.heap.size v2 (resR zs).length 2 (progs (resR zs))) => f6instrs_any _ _ v1 v2 (resR zs) (resR zs) wx h1 h2 hxl hxl)
  rw [decide_eq_true (rfl : resR zs = resR zs)] at HXX
  unfold RetP codeP at HXI
  generalize (chkP zs).1 = k1 at *
  generalize (chkP zs).2.1 = k2 at *
  generalize (chkP zs).2.2 = k3 at *
  generalize codR zs = cR at *
  generalize resR zs = X at *
  go_wp2_with fail
  refine (HKI.out _ RS.out (Ht.out.below HB.out)).mono ?_; rintro e wn ⟨rfl, hb⟩
  have RL' := Lib.hid (rdN RL.out hb)
  have RN' := Lib.hid (rdN RN.out hb)
  have RM' := Lib.hid (rdN RM.out hb)
  have RS' := Lib.hid (rdN RS.out hb)
  clear RL; have RL := RL'; clear RL'
  clear RN; have RN := RN'; clear RN'
  clear RM; have RM := RM'; clear RM'
  clear RS; have RS := RS'; clear RS'
  have HB' := Lib.hid (HB.out.trans (hb.mono HB.out.size)); clear HB; have HB := HB'; clear HB'
  clear hb
  go_wp2_with fail
  refine (HKS.out _ RS.out).mono ?_; rintro e wn ⟨rfl, hb⟩
  have RL' := Lib.hid (rdN RL.out hb)
  have RN' := Lib.hid (rdN RN.out hb)
  have RM' := Lib.hid (rdN RM.out hb)
  have RS' := Lib.hid (rdN RS.out hb)
  clear RL; have RL := RL'; clear RL'
  clear RN; have RN := RN'; clear RN'
  clear RM; have RM := RM'; clear RM'
  clear RS; have RS := RS'; clear RS'
  have HB' := Lib.hid (HB.out.trans (hb.mono HB.out.size)); clear HB; have HB := HB'; clear HB'
  clear hb HKI HKS
  go_wp2_with fail
  refine (HRI.out _ RS.out (Ht.out.below HB.out)).mono ?_; rintro e wn ⟨v15, rfl, ho, hb⟩
  have RX0 := Lib.hid (Rd.of_own ho)
  have RL' := Lib.hid (rdN RL.out hb)
  have RN' := Lib.hid (rdN RN.out hb)
  have RM' := Lib.hid (rdN RM.out hb)
  have RS' := Lib.hid (rdN RS.out hb)
  clear RL; have RL := RL'; clear RL'
  clear RN; have RN := RN'; clear RN'
  clear RM; have RM := RM'; clear RM'
  clear RS; have RS := RS'; clear RS'
  have HB' := Lib.hid (HB.out.trans (hb.mono HB.out.size)); clear HB; have HB := HB'; clear HB'
  have RX := RX0; clear RX0
  obtain ⟨A15, c15, rfl⟩ := sl_of_own2 ho
  clear ho hb
  go_wp2_with fail
  refine (HRS.out _ RS.out).mono ?_; rintro e wn ⟨v17, rfl, ho, hb⟩
  have RY0 := Lib.hid (Rd.of_own ho)
  have RL' := Lib.hid (rdN RL.out hb)
  have RN' := Lib.hid (rdN RN.out hb)
  have RM' := Lib.hid (rdN RM.out hb)
  have RS' := Lib.hid (rdN RS.out hb)
  have RX' := Lib.hid (rdN RX.out hb)
  clear RL; have RL := RL'; clear RL'
  clear RN; have RN := RN'; clear RN'
  clear RM; have RM := RM'; clear RM'
  clear RS; have RS := RS'; clear RS'
  clear RX; have RX := RX'; clear RX'
  have HB' := Lib.hid (HB.out.trans (hb.mono HB.out.size)); clear HB; have HB := HB'; clear HB'
  have RY := RY0; clear RY0
  obtain ⟨A17, c17, rfl⟩ := sl_of_own2 ho
  clear ho hb HRI HRS
  go_wp2_with fail
  refine (drawSP_any _ _ bs _ (HC.out.below HB.out) HB.out.size).mono ?_; rintro e wn ⟨v19, l1, v20, l2, rfl, ho1, ho2, hn1, hn2, hb⟩
  have RA0 := Lib.hid (Rd.of_own ho1)
  have RB0 := Lib.hid (Rd.of_own ho2)
  have RL' := Lib.hid (rdN RL.out hb)
  have RN' := Lib.hid (rdN RN.out hb)
  have RM' := Lib.hid (rdN RM.out hb)
  have RS' := Lib.hid (rdN RS.out hb)
  have RX' := Lib.hid (rdN RX.out hb)
  have RY' := Lib.hid (rdN RY.out hb)
  clear RL; have RL := RL'; clear RL'
  clear RN; have RN := RN'; clear RN'
  clear RM; have RM := RM'; clear RM'
  clear RS; have RS := RS'; clear RS'
  clear RX; have RX := RX'; clear RX'
  clear RY; have RY := RY'; clear RY'
  have HB' := Lib.hid (HB.out.trans (hb.mono HB.out.size)); clear HB; have HB := HB'; clear HB'
  have RA := RA0; clear RA0
  have RB := RB0; clear RB0
  obtain ⟨A19, c19, rfl⟩ := sl_of_own2 ho1
  obtain ⟨A20, c20, rfl⟩ := sl_of_own2 ho2
  clear ho1 ho2 hb
  go_wp2_with fail
  refine (drawLF_any _ _ bs _ (HC.out.below HB.out) HB.out.size).mono ?_; rintro e wn ⟨k21, rfl, hk0, hk7, hb⟩
  have RL' := Lib.hid (rdN RL.out hb)
  have RN' := Lib.hid (rdN RN.out hb)
  have RM' := Lib.hid (rdN RM.out hb)
  have RS' := Lib.hid (rdN RS.out hb)
  have RX' := Lib.hid (rdN RX.out hb)
  have RY' := Lib.hid (rdN RY.out hb)
  have RA' := Lib.hid (rdN RA.out hb)
  have RB' := Lib.hid (rdN RB.out hb)
  clear RL; have RL := RL'; clear RL'
  clear RN; have RN := RN'; clear RN'
  clear RM; have RM := RM'; clear RM'
  clear RS; have RS := RS'; clear RS'
  clear RX; have RX := RX'; clear RX'
  clear RY; have RY := RY'; clear RY'
  clear RA; have RA := RA'; clear RA'
  clear RB; have RB := RB'; clear RB'
  have HB' := Lib.hid (HB.out.trans (hb.mono HB.out.size)); clear HB; have HB := HB'; clear HB'
  clear hb HC
  go_wp2_with fail
  refine (HFT.out _ _ _ RN.out RM.out).mono ?_; rintro e wn ⟨rfl, n1, hw⟩
  have hb := below_eq hw
  clear hw
  have RL' := Lib.hid (rdN RL.out hb)
  have RN' := Lib.hid (rdN RN.out hb)
  have RM' := Lib.hid (rdN RM.out hb)
  have RS' := Lib.hid (rdN RS.out hb)
  have RX' := Lib.hid (rdN RX.out hb)
  have RY' := Lib.hid (rdN RY.out hb)
  have RA' := Lib.hid (rdN RA.out hb)
  have RB' := Lib.hid (rdN RB.out hb)
  clear RL; have RL := RL'; clear RL'
  clear RN; have RN := RN'; clear RN'
  clear RM; have RM := RM'; clear RM'
  clear RS; have RS := RS'; clear RS'
  clear RX; have RX := RX'; clear RX'
  clear RY; have RY := RY'; clear RY'
  clear RA; have RA := RA'; clear RA'
  clear RB; have RB := RB'; clear RB'
  have HB' := Lib.hid (HB.out.trans (hb.mono HB.out.size)); clear HB; have HB := HB'; clear HB'
  clear hb
  go_wp2_with fail
  refine (HXX.out _ _ _ RX.out RY.out).mono ?_; rintro e wn ⟨rfl, n2, hw⟩
  have hb := below_eq hw
  clear hw
  have RL' := Lib.hid (rdN RL.out hb)
  have RN' := Lib.hid (rdN RN.out hb)
  have RM' := Lib.hid (rdN RM.out hb)
  have RS' := Lib.hid (rdN RS.out hb)
  have RX' := Lib.hid (rdN RX.out hb)
  have RY' := Lib.hid (rdN RY.out hb)
  have RA' := Lib.hid (rdN RA.out hb)
  have RB' := Lib.hid (rdN RB.out hb)
  clear RL; have RL := RL'; clear RL'
  clear RN; have RN := RN'; clear RN'
  clear RM; have RM := RM'; clear RM'
  clear RS; have RS := RS'; clear RS'
  clear RX; have RX := RX'; clear RX'
  clear RY; have RY := RY'; clear RY'
  clear RA; have RA := RA'; clear RA'
  clear RB; have RB := RB'; clear RB'
  have HB' := Lib.hid (HB.out.trans (hb.mono HB.out.size)); clear HB; have HB := HB'; clear HB'
  clear hb
  go_wp2_with fail
  refine (SamePI_any _ _ _ _ l1 l2 _ RA.out RB.out (by omega) (by omega)).mono ?_; rintro e wn ⟨rfl, n3, hw⟩
  have hb := below_eq hw
  clear hw
  have RL' := Lib.hid (rdN RL.out hb)
  have RN' := Lib.hid (rdN RN.out hb)
  have RM' := Lib.hid (rdN RM.out hb)
  have RS' := Lib.hid (rdN RS.out hb)
  have RX' := Lib.hid (rdN RX.out hb)
  have RY' := Lib.hid (rdN RY.out hb)
  have RA' := Lib.hid (rdN RA.out hb)
  have RB' := Lib.hid (rdN RB.out hb)
  clear RL; have RL := RL'; clear RL'
  clear RN; have RN := RN'; clear RN'
  clear RM; have RM := RM'; clear RM'
  clear RS; have RS := RS'; clear RS'
  clear RX; have RX := RX'; clear RX'
  clear RY; have RY := RY'; clear RY'
  clear RA; have RA := RA'; clear RA'
  clear RB; have RB := RB'; clear RB'
  have HB' := Lib.hid (HB.out.trans (hb.mono HB.out.size)); clear HB; have HB := HB'; clear HB'
  clear hb
  go_wp2_with fail
  refine (SamePS_any _ _ _ _ l1 l2 _ RA.out RB.out (by omega) (by omega)).mono ?_; rintro e wn ⟨rfl, n4, hw⟩
  have hb := below_eq hw
  clear hw
  have RL' := Lib.hid (rdN RL.out hb)
  have RN' := Lib.hid (rdN RN.out hb)
  have RM' := Lib.hid (rdN RM.out hb)
  have RS' := Lib.hid (rdN RS.out hb)
  have RX' := Lib.hid (rdN RX.out hb)
  have RY' := Lib.hid (rdN RY.out hb)
  have RA' := Lib.hid (rdN RA.out hb)
  have RB' := Lib.hid (rdN RB.out hb)
  clear RL; have RL := RL'; clear RL'
  clear RN; have RN := RN'; clear RN'
  clear RM; have RM := RM'; clear RM'
  clear RS; have RS := RS'; clear RS'
  clear RX; have RX := RX'; clear RX'
  clear RY; have RY := RY'; clear RY'
  clear RA; have RA := RA'; clear RA'
  clear RB; have RB := RB'; clear RB'
  have HB' := Lib.hid (HB.out.trans (hb.mono HB.out.size)); clear HB; have HB := HB'; clear HB'
  clear hb
  generalize decide (l1 = l2) = D at *
  go_wp2_with fail
  refine (faultI_any k21 _ hk0 hk7).mono ?_; rintro e wn ⟨rfl, hb⟩
  have RL' := Lib.hid (rdN RL.out hb)
  have RN' := Lib.hid (rdN RN.out hb)
  have RM' := Lib.hid (rdN RM.out hb)
  have RS' := Lib.hid (rdN RS.out hb)
  have RX' := Lib.hid (rdN RX.out hb)
  have RY' := Lib.hid (rdN RY.out hb)
  have RA' := Lib.hid (rdN RA.out hb)
  have RB' := Lib.hid (rdN RB.out hb)
  clear RL; have RL := RL'; clear RL'
  clear RN; have RN := RN'; clear RN'
  clear RM; have RM := RM'; clear RM'
  clear RS; have RS := RS'; clear RS'
  clear RX; have RX := RX'; clear RX'
  clear RY; have RY := RY'; clear RY'
  clear RA; have RA := RA'; clear RA'
  clear RB; have RB := RB'; clear RB'
  have HB' := Lib.hid (HB.out.trans (hb.mono HB.out.size)); clear HB; have HB := HB'; clear HB'
  clear hb
  go_wp2_with fail
  refine (faultS_any k21 _ hk0 hk7).mono ?_; rintro e wn ⟨rfl, hb⟩
  have RL' := Lib.hid (rdN RL.out hb)
  have RN' := Lib.hid (rdN RN.out hb)
  have RM' := Lib.hid (rdN RM.out hb)
  have RS' := Lib.hid (rdN RS.out hb)
  have RX' := Lib.hid (rdN RX.out hb)
  have RY' := Lib.hid (rdN RY.out hb)
  have RA' := Lib.hid (rdN RA.out hb)
  have RB' := Lib.hid (rdN RB.out hb)
  clear RL; have RL := RL'; clear RL'
  clear RN; have RN := RN'; clear RN'
  clear RM; have RM := RM'; clear RM'
  clear RS; have RS := RS'; clear RS'
  clear RX; have RX := RX'; clear RX'
  clear RY; have RY := RY'; clear RY'
  clear RA; have RA := RA'; clear RA'
  clear RB; have RB := RB'; clear RB'
  have HB' := Lib.hid (HB.out.trans (hb.mono HB.out.size)); clear HB; have HB := HB'; clear HB'
  clear hb
  generalize faultN k21 = FN at *
  go_wp2_with fail
  refine (HVI.out _ RL.out).mono ?_; rintro e wn ⟨rfl, hb⟩
  have RL' := Lib.hid (rdN RL.out hb)
  have RN' := Lib.hid (rdN RN.out hb)
  have RM' := Lib.hid (rdN RM.out hb)
  have RS' := Lib.hid (rdN RS.out hb)
  have RX' := Lib.hid (rdN RX.out hb)
  have RY' := Lib.hid (rdN RY.out hb)
  have RA' := Lib.hid (rdN RA.out hb)
  have RB' := Lib.hid (rdN RB.out hb)
  clear RL; have RL := RL'; clear RL'
  clear RN; have RN := RN'; clear RN'
  clear RM; have RM := RM'; clear RM'
  clear RS; have RS := RS'; clear RS'
  clear RX; have RX := RX'; clear RX'
  clear RY; have RY := RY'; clear RY'
  clear RA; have RA := RA'; clear RA'
  clear RB; have RB := RB'; clear RB'
  have HB' := Lib.hid (HB.out.trans (hb.mono HB.out.size)); clear HB; have HB := HB'; clear HB'
  clear hb
  go_wp2_with fail
  refine (HVS.out _ RL.out).mono ?_; rintro e wn ⟨rfl, n5, hw⟩
  have hb := below_eq hw
  clear hw
  have RL' := Lib.hid (rdN RL.out hb)
  have RN' := Lib.hid (rdN RN.out hb)
  have RM' := Lib.hid (rdN RM.out hb)
  have RS' := Lib.hid (rdN RS.out hb)
  have RX' := Lib.hid (rdN RX.out hb)
  have RY' := Lib.hid (rdN RY.out hb)
  have RA' := Lib.hid (rdN RA.out hb)
  have RB' := Lib.hid (rdN RB.out hb)
  clear RL; have RL := RL'; clear RL'
  clear RN; have RN := RN'; clear RN'
  clear RM; have RM := RM'; clear RM'
  clear RS; have RS := RS'; clear RS'
  clear RX; have RX := RX'; clear RX'
  clear RY; have RY := RY'; clear RY'
  clear RA; have RA := RA'; clear RA'
  clear RB; have RB := RB'; clear RB'
  have HB' := Lib.hid (HB.out.trans (hb.mono HB.out.size)); clear HB; have HB := HB'; clear HB'
  clear hb
  by_cases hc : cR = 0
  · subst hc
    obtain ⟨rfl, rfl⟩ := Hck.out.1 rfl
    obtain ⟨j1, j2⟩ := Hrd.out rfl
    rw [j1, j2] at HXI
    rw [j1] at HXV
    clear j1 j2 Hck Hrd
    go_wp2_with fail
    refine (HXI.out _ _ RX.out (Ht.out.below HB.out)).mono ?_; rintro e wn ⟨v22, rfl, ho, hb⟩
    have RG0 := Lib.hid (Rd.of_own ho)
    have RL' := Lib.hid (rdN RL.out hb)
    have RN' := Lib.hid (rdN RN.out hb)
    have RM' := Lib.hid (rdN RM.out hb)
    have RS' := Lib.hid (rdN RS.out hb)
    have RX' := Lib.hid (rdN RX.out hb)
    have RY' := Lib.hid (rdN RY.out hb)
    have RA' := Lib.hid (rdN RA.out hb)
    have RB' := Lib.hid (rdN RB.out hb)
    clear RL; have RL := RL'; clear RL'
    clear RN; have RN := RN'; clear RN'
    clear RM; have RM := RM'; clear RM'
    clear RS; have RS := RS'; clear RS'
    clear RX; have RX := RX'; clear RX'
    clear RY; have RY := RY'; clear RY'
    clear RA; have RA := RA'; clear RA'
    clear RB; have RB := RB'; clear RB'
    have HB' := Lib.hid (HB.out.trans (hb.mono HB.out.size)); clear HB; have HB := HB'; clear HB'
    have RG := RG0; clear RG0
    obtain ⟨A22, c22, rfl⟩ := sl_of_own2 ho
    clear ho hb HXI
    go_wp2_with fail
    refine (HFZ.out _ _ RG.out RS.out).mono ?_; rintro e wn ⟨rfl, n6, hw⟩
    have hb := below_eq hw
    clear hw
    have RL' := Lib.hid (rdN RL.out hb)
    have RN' := Lib.hid (rdN RN.out hb)
    have RM' := Lib.hid (rdN RM.out hb)
    have RS' := Lib.hid (rdN RS.out hb)
    have RX' := Lib.hid (rdN RX.out hb)
    have RY' := Lib.hid (rdN RY.out hb)
    have RA' := Lib.hid (rdN RA.out hb)
    have RB' := Lib.hid (rdN RB.out hb)
    have RG' := Lib.hid (rdN RG.out hb)
    clear RL; have RL := RL'; clear RL'
    clear RN; have RN := RN'; clear RN'
    clear RM; have RM := RM'; clear RM'
    clear RS; have RS := RS'; clear RS'
    clear RX; have RX := RX'; clear RX'
    clear RY; have RY := RY'; clear RY'
    clear RA; have RA := RA'; clear RA'
    clear RB; have RB := RB'; clear RB'
    clear RG; have RG := RG'; clear RG'
    have HB' := Lib.hid (HB.out.trans (hb.mono HB.out.size)); clear HB; have HB := HB'; clear HB'
    clear hb
    go_wp2_with fail
    refine (HXV.out _ _ RX.out).mono ?_; rintro e wn ⟨rfl, hb⟩
    have RL' := Lib.hid (rdN RL.out hb)
    have RN' := Lib.hid (rdN RN.out hb)
    have RM' := Lib.hid (rdN RM.out hb)
    have RS' := Lib.hid (rdN RS.out hb)
    have RX' := Lib.hid (rdN RX.out hb)
    have RY' := Lib.hid (rdN RY.out hb)
    have RA' := Lib.hid (rdN RA.out hb)
    have RB' := Lib.hid (rdN RB.out hb)
    have RG' := Lib.hid (rdN RG.out hb)
    clear RL; have RL := RL'; clear RL'
    clear RN; have RN := RN'; clear RN'
    clear RM; have RM := RM'; clear RM'
    clear RS; have RS := RS'; clear RS'
    clear RX; have RX := RX'; clear RX'
    clear RY; have RY := RY'; clear RY'
    clear RA; have RA := RA'; clear RA'
    clear RB; have RB := RB'; clear RB'
    clear RG; have RG := RG'; clear RG'
    have HB' := Lib.hid (HB.out.trans (hb.mono HB.out.size)); clear HB; have HB := HB'; clear HB'
    clear hb
    rcases Hcode.out with ⟨h1, h2⟩ | ⟨h1, h2⟩
    · subst h1
      obtain ⟨j1, j2⟩ := Hback.out h2
      rw [j1, j2] at HRB
      clear j1 j2 h2 Hback Hcode
      go_wp2_with fail
      refine (HRB.out _ _ RN.out (Ht.out.below HB.out)).mono ?_; rintro e wn ⟨v24, rfl, ho, hb⟩
      have RK0 := Lib.hid (Rd.of_own ho)
      have RL' := Lib.hid (rdN RL.out hb)
      have RN' := Lib.hid (rdN RN.out hb)
      have RM' := Lib.hid (rdN RM.out hb)
      have RS' := Lib.hid (rdN RS.out hb)
      have RX' := Lib.hid (rdN RX.out hb)
      have RY' := Lib.hid (rdN RY.out hb)
      have RA' := Lib.hid (rdN RA.out hb)
      have RB' := Lib.hid (rdN RB.out hb)
      have RG' := Lib.hid (rdN RG.out hb)
      clear RL; have RL := RL'; clear RL'
      clear RN; have RN := RN'; clear RN'
      clear RM; have RM := RM'; clear RM'
      clear RS; have RS := RS'; clear RS'
      clear RX; have RX := RX'; clear RX'
      clear RY; have RY := RY'; clear RY'
      clear RA; have RA := RA'; clear RA'
      clear RB; have RB := RB'; clear RB'
      clear RG; have RG := RG'; clear RG'
      have HB' := Lib.hid (HB.out.trans (hb.mono HB.out.size)); clear HB; have HB := HB'; clear HB'
      have RK := RK0; clear RK0
      obtain ⟨A24, c24, rfl⟩ := sl_of_own2 ho
      clear ho hb
      have HII := Lib.hid (f6instrs_any _ _ _ _ list list _ RK.out RL.out hl1 hl1)
      rw [decide_eq_true (rfl : list = list)] at HII
      go_wp2_with fail
      refine HII.out.mono ?_; rintro e wn ⟨rfl, n7, hw⟩
      have hb := below_eq hw
      have HB' := Lib.hid (HB.out.trans (hb.mono HB.out.size))
      clear hw
      go_wp2_with fail
      go_ret
      exact ⟨rfl, HB'.out⟩
    · subst h1
      go_wp2_with fail
      go_ret
      exact ⟨rfl, HB.out⟩
  · have hc1 : (cR == 0) = false := by rw [beq_eq_false_iff_ne]; exact hc
    have hc2 : k3 = 0 → k1 ≠ -1 := fun h1 h2 => hc (Hck.out.2 ⟨h1, h2⟩)
    by_cases hk3 : k3 = 0
    · subst hk3
      have hk1 : (k1 == -1) = false := by rw [beq_eq_false_iff_ne]; exact hc2 rfl
      clear hc2 Hck hc
      rcases Hcode.out with ⟨h1, h2⟩ | ⟨h1, h2⟩
      · subst h1
        obtain ⟨j1, j2⟩ := Hback.out h2
        rw [j1, j2] at HRB
        clear j1 j2 h2 Hback Hcode
        go_wp2_with fail
        refine (HRB.out _ _ RN.out (Ht.out.below HB.out)).mono ?_; rintro e wn ⟨v24, rfl, ho, hb⟩
        have RK0 := Lib.hid (Rd.of_own ho)
        have RL' := Lib.hid (rdN RL.out hb)
        have RN' := Lib.hid (rdN RN.out hb)
        have RM' := Lib.hid (rdN RM.out hb)
        have RS' := Lib.hid (rdN RS.out hb)
        have RX' := Lib.hid (rdN RX.out hb)
        have RY' := Lib.hid (rdN RY.out hb)
        have RA' := Lib.hid (rdN RA.out hb)
        have RB' := Lib.hid (rdN RB.out hb)
        clear RL; have RL := RL'; clear RL'
        clear RN; have RN := RN'; clear RN'
        clear RM; have RM := RM'; clear RM'
        clear RS; have RS := RS'; clear RS'
        clear RX; have RX := RX'; clear RX'
        clear RY; have RY := RY'; clear RY'
        clear RA; have RA := RA'; clear RA'
        clear RB; have RB := RB'; clear RB'
        have HB' := Lib.hid (HB.out.trans (hb.mono HB.out.size)); clear HB; have HB := HB'; clear HB'
        have RK := RK0; clear RK0
        obtain ⟨A24, c24, rfl⟩ := sl_of_own2 ho
        clear ho hb
        have HII := Lib.hid (f6instrs_any _ _ _ _ list list _ RK.out RL.out hl1 hl1)
        rw [decide_eq_true (rfl : list = list)] at HII
        go_wp2_with fail
        refine HII.out.mono ?_; rintro e wn ⟨rfl, n7, hw⟩
        have hb := below_eq hw
        have HB' := Lib.hid (HB.out.trans (hb.mono HB.out.size))
        clear hw
        go_wp2_with fail
        go_ret
        exact ⟨rfl, HB'.out⟩
      · subst h1
        go_wp2_with fail
        go_ret
        exact ⟨rfl, HB.out⟩
    · have hk1 : (k3 == 0) = false := by rw [beq_eq_false_iff_ne]; exact hk3
      clear hc2 Hck hc
      rcases Hcode.out with ⟨h1, h2⟩ | ⟨h1, h2⟩
      · subst h1
        obtain ⟨j1, j2⟩ := Hback.out h2
        rw [j1, j2] at HRB
        clear j1 j2 h2 Hback Hcode
        go_wp2_with fail
        refine (HRB.out _ _ RN.out (Ht.out.below HB.out)).mono ?_; rintro e wn ⟨v24, rfl, ho, hb⟩
        have RK0 := Lib.hid (Rd.of_own ho)
        have RL' := Lib.hid (rdN RL.out hb)
        have RN' := Lib.hid (rdN RN.out hb)
        have RM' := Lib.hid (rdN RM.out hb)
        have RS' := Lib.hid (rdN RS.out hb)
        have RX' := Lib.hid (rdN RX.out hb)
        have RY' := Lib.hid (rdN RY.out hb)
        have RA' := Lib.hid (rdN RA.out hb)
        have RB' := Lib.hid (rdN RB.out hb)
        clear RL; have RL := RL'; clear RL'
        clear RN; have RN := RN'; clear RN'
        clear RM; have RM := RM'; clear RM'
        clear RS; have RS := RS'; clear RS'
        clear RX; have RX := RX'; clear RX'
        clear RY; have RY := RY'; clear RY'
        clear RA; have RA := RA'; clear RA'
        clear RB; have RB := RB'; clear RB'
        have HB' := Lib.hid (HB.out.trans (hb.mono HB.out.size)); clear HB; have HB := HB'; clear HB'
        have RK := RK0; clear RK0
        obtain ⟨A24, c24, rfl⟩ := sl_of_own2 ho
        clear ho hb
        have HII := Lib.hid (f6instrs_any _ _ _ _ list list _ RK.out RL.out hl1 hl1)
        rw [decide_eq_true (rfl : list = list)] at HII
        go_wp2_with fail
        refine HII.out.mono ?_; rintro e wn ⟨rfl, n7, hw⟩
        have hb := below_eq hw
        have HB' := Lib.hid (HB.out.trans (hb.mono HB.out.size))
        clear hw
        go_wp2_with fail
        go_ret
        exact ⟨rfl, HB'.out⟩
      · subst h1
        go_wp2_with fail
        go_ret
        exact ⟨rfl, HB.out⟩
end Go.Proofs.YtiddhelabmaghaaDoor
