/- Merged texts: Pq11. -/
import Derived.Test.YtepgfcjfdnakbaaDoorGCardPieces7
/- The law FnPieces: the walk (gen_pq11.py). -/
namespace Go.Proofs.YtepgfcjfdnakbaaDoor
open Go.RowKit Go.Joins

theorem txP_small {xs : List Pc} (hz : ∀ x ∈ xs, x.name.size ≤ 16) : (txP xs).size ≤ 100000 := by
  unfold txP
  cases h : okP xs with
  | false => show 0 ≤ 100000; omega
  | true =>
    obtain ⟨⟨_, h40⟩, _, hs, _⟩ := okP_ok h
    have := textP_small hs (Nat.le_refl _) hz (okP_nm h) xs.length (Nat.le_refl _)
    show (textP xs xs.length).size ≤ 100000
    omega
theorem rdPcs_len (s : ByteArray) : ((rdPcs s).getD []).length ≤ 40 := by
  cases h : rdPcs s with
  | none => exact Nat.zero_le _
  | some xs => exact (okP_ok (rdPcs_iff.1 h).1).1.2
theorem mem_step {Q : List Nat} {m j : Nat} (h : m < Q.length) : decide (j ∈ Q.take (m + 1)) = (decide (j ∈ Q.take m) || decide (Q[m] = j)) := by
  rw [List.take_succ_eq_append_getElem h]
  simp only [List.mem_append, List.mem_singleton, Bool.decide_or]
  congr 1
  exact decide_eq_decide.2 ⟨Eq.symm, Eq.symm⟩
theorem rd_natV {w : World} {B : Nat} {v : Value} {l : List Nat} (h : Rd w B v l.length 1 (natV l)) : Rd w B v l.length 1 (tab l.length (fun i => (l.getD i 0 : Int))) := by rw [← natV_tab]; exact h
set_option maxRecDepth 100000 in
set_option maxHeartbeats 25600000 in
theorem walkFnPieces {W : World} (v : Value) (bs : List UInt8) (h : Rd W W.heap.size v bs.length 1 (bs.map byV)) (_hl : bs.length ≤ maxLen) (ht : Tab W) :
    Calls Tryd.prog 3 #[v] W fun e w' => e = .returned (.bool true) ∧ Below W.heap.size W w' := by
  have HB := Lib.hid (Below.refl W.heap.size W)
  have HC := Lib.hid h
  have HTb := Lib.hid (fun w2 (hb : Below W.heap.size W w2) => ht.below hb)
  have HG := Lib.hid (f6big_c _ _ v _ W h)
  obtain ⟨_, A0, c0, rfl, _⟩ := h
  clear ht
  by_cases hbig : 4096 < bs.length
  · rw [decide_eq_true hbig] at HG
    clear hbig
    go_enter Tryd.func3, Tryd.ntmps3
    go_wp2_with fail
    refine HG.out.mono ?_; rintro e w1 ⟨rfl, rfl⟩
    go_wp2_with fail
    go_ret
    exact ⟨rfl, HB.out⟩
  rw [decide_eq_false hbig] at HG
  clear hbig
  go_enter Tryd.func3, Tryd.ntmps3
  go_wp2_with fail
  refine HG.out.mono ?_; rintro e w1 ⟨rfl, rfl⟩
  clear HG
  go_wp2_with fail
  refine (drawTO_any _ _ bs _ (HC.out.below HB.out) HB.out.size).mono ?_; rintro e wn ⟨v3, xs3, z4, rfl, hN⟩
  have R30 := Lib.hid (Rd.of_own hN.row)
  have HB' := Lib.hid (HB.out.trans (hN.bel.mono HB.out.size)); clear HB; have HB := HB'; clear HB'
  have R3 := R30; clear R30
  obtain ⟨b3, c3, rfl⟩ := hN.nn
  have hl3 := hN.len
  have Hs3 := Lib.hid hN.sz
  clear hN
  have HTI := Lib.hid (fun wx hx => TotalI_any wx.heap.size (.slice (some ⟨b3, 0, none⟩) xs3.length c3) xs3 z4 wx hx (Nat.le_refl _) (by omega) Hs3.out)
  have HTS := Lib.hid (fun wx hx => TotalS_any wx.heap.size (.slice (some ⟨b3, 0, none⟩) xs3.length c3) xs3 z4 wx hx (Nat.le_refl _) (by omega) Hs3.out)
  have HPI := Lib.hid (fun wx hx => PathI_any wx.heap.size (.slice (some ⟨b3, 0, none⟩) xs3.length c3) xs3 z4 wx hx (Nat.le_refl _) (by omega) Hs3.out)
  have HPS := Lib.hid (fun wx hx => PathS_any wx.heap.size (.slice (some ⟨b3, 0, none⟩) xs3.length c3) xs3 z4 wx hx (Nat.le_refl _) (by omega) Hs3.out)
  have HUI := Lib.hid (fun wx hx => PUnderI_any wx.heap.size (.slice (some ⟨b3, 0, none⟩) xs3.length c3) xs3 z4 wx hx (Nat.le_refl _) (by omega) Hs3.out)
  have HUS := Lib.hid (fun wx hx => UnderS_any wx.heap.size (.slice (some ⟨b3, 0, none⟩) xs3.length c3) xs3 z4 wx hx (Nat.le_refl _) (by omega) Hs3.out)
  have HPX := Lib.hid (fun (i : Int) wx hx => PathI_any wx.heap.size (.slice (some ⟨b3, 0, none⟩) xs3.length c3) xs3 i wx hx (Nat.le_refl _) (by omega) Hs3.out)
  have HVI := Lib.hid (fun wx hx => ValidPI_any wx.heap.size (.slice (some ⟨b3, 0, none⟩) xs3.length c3) xs3 wx hx (Nat.le_refl _) (by omega) Hs3.out)
  have HVS := Lib.hid (fun wx hx => ValidP2_any wx.heap.size (.slice (some ⟨b3, 0, none⟩) xs3.length c3) xs3 wx hx (Nat.le_refl _) (by omega) Hs3.out)
  have HLaw := Lib.hid (@pieces_law xs3 z4)
  have hl9 := paC_len xs3 z4
  have hl13 := uC_len xs3 z4
  unfold RetTt at HTI HTS
  unfold RetNc at HPI HPS HUS HPX
  unfold RetUC at HUI
  generalize toV xs3 z4 = n5 at *
  generalize paC xs3 z4 = P9 at *
  generalize uC xs3 z4 = U13 at *
  generalize cdP xs3 z4 = C6 at *
  generalize okP xs3 = bv at *
  go_wp2_with fail
  refine (HTI.out _ R3.out).mono ?_; rintro e wn ⟨rfl, hb⟩
  have R3' := Lib.hid (rdN R3.out hb)
  clear R3; have R3 := R3'; clear R3'
  have HB' := Lib.hid (HB.out.trans (hb.mono HB.out.size)); clear HB; have HB := HB'; clear HB'
  clear hb HTI
  go_wp2_with fail
  refine (HTS.out _ R3.out).mono ?_; rintro e wn ⟨rfl, hb⟩
  have R3' := Lib.hid (rdN R3.out hb)
  clear R3; have R3 := R3'; clear R3'
  have HB' := Lib.hid (HB.out.trans (hb.mono HB.out.size)); clear HB; have HB := HB'; clear HB'
  clear hb HTS
  go_wp2_with fail
  refine (HPI.out _ R3.out).mono ?_; rintro e wn ⟨v9, rfl, ho, hb⟩
  have R90 := Lib.hid (Rd.of_own ho)
  have R3' := Lib.hid (rdN R3.out hb)
  clear R3; have R3 := R3'; clear R3'
  have HB' := Lib.hid (HB.out.trans (hb.mono HB.out.size)); clear HB; have HB := HB'; clear HB'
  have R9 := R90; clear R90
  obtain ⟨A9, c9, rfl⟩ := own_sl ho
  clear hb ho HPI
  go_wp2_with fail
  refine (HPS.out _ R3.out).mono ?_; rintro e wn ⟨v11, rfl, ho, hb⟩
  have R110 := Lib.hid (Rd.of_own ho)
  have R3' := Lib.hid (rdN R3.out hb)
  have R9' := Lib.hid (rdN R9.out hb)
  clear R3; have R3 := R3'; clear R3'
  clear R9; have R9 := R9'; clear R9'
  have HB' := Lib.hid (HB.out.trans (hb.mono HB.out.size)); clear HB; have HB := HB'; clear HB'
  have R11 := R110; clear R110
  obtain ⟨A11, c11, rfl⟩ := own_sl ho
  clear hb ho HPS
  go_wp2_with fail
  refine (HUI.out _ R3.out).mono ?_; rintro e wn ⟨v13, rfl, ho, hb⟩
  have R130 := Lib.hid (Rd.of_own ho)
  have R3' := Lib.hid (rdN R3.out hb)
  have R9' := Lib.hid (rdN R9.out hb)
  have R11' := Lib.hid (rdN R11.out hb)
  clear R3; have R3 := R3'; clear R3'
  clear R9; have R9 := R9'; clear R9'
  clear R11; have R11 := R11'; clear R11'
  have HB' := Lib.hid (HB.out.trans (hb.mono HB.out.size)); clear HB; have HB := HB'; clear HB'
  have R13 := R130; clear R130
  obtain ⟨A13, c13, rfl⟩ := own_sl ho
  clear hb ho HUI
  go_wp2_with fail
  refine (HUS.out _ R3.out).mono ?_; rintro e wn ⟨v15, rfl, ho, hb⟩
  have R150 := Lib.hid (Rd.of_own ho)
  have R3' := Lib.hid (rdN R3.out hb)
  have R9' := Lib.hid (rdN R9.out hb)
  have R11' := Lib.hid (rdN R11.out hb)
  have R13' := Lib.hid (rdN R13.out hb)
  clear R3; have R3 := R3'; clear R3'
  clear R9; have R9 := R9'; clear R9'
  clear R11; have R11 := R11'; clear R11'
  clear R13; have R13 := R13'; clear R13'
  have HB' := Lib.hid (HB.out.trans (hb.mono HB.out.size)); clear HB; have HB := HB'; clear HB'
  have R15 := R150; clear R150
  obtain ⟨A15, c15, rfl⟩ := own_sl ho
  clear hb ho HUS
  go_wp2_with fail
  refine (drawPT_any _ _ bs _ (HC.out.below HB.out) HB.out.size).mono ?_; rintro e wn ⟨v17, xs17, rfl, hN⟩
  have R170 := Lib.hid (Rd.of_own hN.row)
  have R3' := Lib.hid (rdN R3.out hN.bel)
  have R9' := Lib.hid (rdN R9.out hN.bel)
  have R11' := Lib.hid (rdN R11.out hN.bel)
  have R13' := Lib.hid (rdN R13.out hN.bel)
  have R15' := Lib.hid (rdN R15.out hN.bel)
  clear R3; have R3 := R3'; clear R3'
  clear R9; have R9 := R9'; clear R9'
  clear R11; have R11 := R11'; clear R11'
  clear R13; have R13 := R13'; clear R13'
  clear R15; have R15 := R15'; clear R15'
  have HB' := Lib.hid (HB.out.trans (hN.bel.mono HB.out.size)); clear HB; have HB := HB'; clear HB'
  have R17 := R170; clear R170
  obtain ⟨b17, c17, rfl⟩ := hN.nn
  have hl17 := hN.len
  have Hs17 := Lib.hid hN.sz
  have hT17 := txP_small hN.sm
  clear hN
  have HXI := Lib.hid (fun wx hx ht => TextI_any wx.heap.size (.slice (some ⟨b17, 0, none⟩) xs17.length c17) xs17 wx hx (Nat.le_refl _) (by omega) Hs17.out ht)
  have HXS := Lib.hid (fun wx hx => TextS_any wx.heap.size (.slice (some ⟨b17, 0, none⟩) xs17.length c17) xs17 wx hx (Nat.le_refl _) (by omega) Hs17.out)
  have HBk := Lib.hid (@txP_back xs17)
  have hl19 := rdPcs_len (txP xs17)
  have HRI := Lib.hid (fun wx ht => ReadPI_any (txP xs17) wx hT17 ht)
  have HNil := Lib.hid (show txP xs17 = ⟨#[]⟩ → rdPcs (txP xs17) = none from fun h => by rw [h]; exact txP_nil)
  unfold RetRx OwP at HRI
  generalize txP xs17 = T18 at *
  generalize rdPcs T18 = r19 at *
  clear hT17
  go_wp2_with fail
  refine (HXI.out _ R17.out (HTb.out _ HB.out)).mono ?_; rintro e wn ⟨rfl, hb⟩
  have R3' := Lib.hid (rdN R3.out hb)
  have R9' := Lib.hid (rdN R9.out hb)
  have R11' := Lib.hid (rdN R11.out hb)
  have R13' := Lib.hid (rdN R13.out hb)
  have R15' := Lib.hid (rdN R15.out hb)
  have R17' := Lib.hid (rdN R17.out hb)
  clear R3; have R3 := R3'; clear R3'
  clear R9; have R9 := R9'; clear R9'
  clear R11; have R11 := R11'; clear R11'
  clear R13; have R13 := R13'; clear R13'
  clear R15; have R15 := R15'; clear R15'
  clear R17; have R17 := R17'; clear R17'
  have HB' := Lib.hid (HB.out.trans (hb.mono HB.out.size)); clear HB; have HB := HB'; clear HB'
  clear hb HXI
  go_wp2_with fail
  refine (HRI.out _ (HTb.out _ HB.out)).mono ?_; rintro e wn ⟨v19, rfl, ho, hb⟩
  have R190 := Lib.hid (Rd.of_own ho)
  have R3' := Lib.hid (rdN R3.out hb)
  have R9' := Lib.hid (rdN R9.out hb)
  have R11' := Lib.hid (rdN R11.out hb)
  have R13' := Lib.hid (rdN R13.out hb)
  have R15' := Lib.hid (rdN R15.out hb)
  have R17' := Lib.hid (rdN R17.out hb)
  clear R3; have R3 := R3'; clear R3'
  clear R9; have R9 := R9'; clear R9'
  clear R11; have R11 := R11'; clear R11'
  clear R13; have R13 := R13'; clear R13'
  clear R15; have R15 := R15'; clear R15'
  clear R17; have R17 := R17'; clear R17'
  have HB' := Lib.hid (HB.out.trans (hb.mono HB.out.size)); clear HB; have HB := HB'; clear HB'
  have R19 := R190; clear R190
  obtain ⟨A19, c19, rfl⟩ := own_sl ho
  clear hb ho HRI
  go_wp2_with fail
  refine (drawRP_any _ _ bs _ (HC.out.below HB.out) HB.out.size).mono ?_; rintro e wn ⟨s21, rfl, hs21, hb⟩
  have R3' := Lib.hid (rdN R3.out hb)
  have R9' := Lib.hid (rdN R9.out hb)
  have R11' := Lib.hid (rdN R11.out hb)
  have R13' := Lib.hid (rdN R13.out hb)
  have R15' := Lib.hid (rdN R15.out hb)
  have R17' := Lib.hid (rdN R17.out hb)
  have R19' := Lib.hid (rdN R19.out hb)
  clear R3; have R3 := R3'; clear R3'
  clear R9; have R9 := R9'; clear R9'
  clear R11; have R11 := R11'; clear R11'
  clear R13; have R13 := R13'; clear R13'
  clear R15; have R15 := R15'; clear R15'
  clear R17; have R17 := R17'; clear R17'
  clear R19; have R19 := R19'; clear R19'
  have HB' := Lib.hid (HB.out.trans (hb.mono HB.out.size)); clear HB; have HB := HB'; clear HB'
  clear hb
  have HXA := Lib.hid (fun wx ht => ReadPI_any s21 wx hs21 ht)
  have HXB := Lib.hid (fun wx => ReadPS_any s21 wx hs21)
  have hl22 := rdPcs_len s21
  unfold RetRx OwP at HXA HXB
  clear hs21
  generalize rdPcs s21 = r22 at *
  generalize r22.getD [] = xs22 at *
  generalize r22.isSome = o23 at *
  go_wp2_with fail
  refine (HXA.out _ (HTb.out _ HB.out)).mono ?_; rintro e wn ⟨v22, rfl, ho, hb⟩
  have R220 := Lib.hid (Rd.of_own ho)
  have R3' := Lib.hid (rdN R3.out hb)
  have R9' := Lib.hid (rdN R9.out hb)
  have R11' := Lib.hid (rdN R11.out hb)
  have R13' := Lib.hid (rdN R13.out hb)
  have R15' := Lib.hid (rdN R15.out hb)
  have R17' := Lib.hid (rdN R17.out hb)
  have R19' := Lib.hid (rdN R19.out hb)
  clear R3; have R3 := R3'; clear R3'
  clear R9; have R9 := R9'; clear R9'
  clear R11; have R11 := R11'; clear R11'
  clear R13; have R13 := R13'; clear R13'
  clear R15; have R15 := R15'; clear R15'
  clear R17; have R17 := R17'; clear R17'
  clear R19; have R19 := R19'; clear R19'
  have HB' := Lib.hid (HB.out.trans (hb.mono HB.out.size)); clear HB; have HB := HB'; clear HB'
  have R22 := R220; clear R220
  obtain ⟨A22, c22, rfl⟩ := own_sl ho
  clear hb ho HXA
  go_wp2_with fail
  refine (HXB.out _).mono ?_; rintro e wn ⟨v24, rfl, ho, hb⟩
  have R240 := Lib.hid (Rd.of_own ho)
  have R3' := Lib.hid (rdN R3.out hb)
  have R9' := Lib.hid (rdN R9.out hb)
  have R11' := Lib.hid (rdN R11.out hb)
  have R13' := Lib.hid (rdN R13.out hb)
  have R15' := Lib.hid (rdN R15.out hb)
  have R17' := Lib.hid (rdN R17.out hb)
  have R19' := Lib.hid (rdN R19.out hb)
  have R22' := Lib.hid (rdN R22.out hb)
  clear R3; have R3 := R3'; clear R3'
  clear R9; have R9 := R9'; clear R9'
  clear R11; have R11 := R11'; clear R11'
  clear R13; have R13 := R13'; clear R13'
  clear R15; have R15 := R15'; clear R15'
  clear R17; have R17 := R17'; clear R17'
  clear R19; have R19 := R19'; clear R19'
  clear R22; have R22 := R22'; clear R22'
  have HB' := Lib.hid (HB.out.trans (hb.mono HB.out.size)); clear HB; have HB := HB'; clear HB'
  have R24 := R240; clear R240
  obtain ⟨A24, c24, rfl⟩ := own_sl ho
  clear hb ho HXB
  go_wp2_with fail
  refine (drawPN_any _ _ bs _ (HC.out.below HB.out) HB.out.size).mono ?_; rintro e wn ⟨v26, xs26, s27, rfl, hN⟩
  have R260 := Lib.hid (Rd.of_own hN.row)
  have R3' := Lib.hid (rdN R3.out hN.bel)
  have R9' := Lib.hid (rdN R9.out hN.bel)
  have R11' := Lib.hid (rdN R11.out hN.bel)
  have R13' := Lib.hid (rdN R13.out hN.bel)
  have R15' := Lib.hid (rdN R15.out hN.bel)
  have R17' := Lib.hid (rdN R17.out hN.bel)
  have R19' := Lib.hid (rdN R19.out hN.bel)
  have R22' := Lib.hid (rdN R22.out hN.bel)
  have R24' := Lib.hid (rdN R24.out hN.bel)
  clear R3; have R3 := R3'; clear R3'
  clear R9; have R9 := R9'; clear R9'
  clear R11; have R11 := R11'; clear R11'
  clear R13; have R13 := R13'; clear R13'
  clear R15; have R15 := R15'; clear R15'
  clear R17; have R17 := R17'; clear R17'
  clear R19; have R19 := R19'; clear R19'
  clear R22; have R22 := R22'; clear R22'
  clear R24; have R24 := R24'; clear R24'
  have HB' := Lib.hid (HB.out.trans (hN.bel.mono HB.out.size)); clear HB; have HB := HB'; clear HB'
  have R26 := R260; clear R260
  obtain ⟨b26, c26, rfl⟩ := hN.nn
  have hl26 := hN.len
  have Hs26 := Lib.hid hN.sz
  clear hN
  have HNI := Lib.hid (fun wx hx => NamedI_any wx.heap.size (.slice (some ⟨b26, 0, none⟩) xs26.length c26) xs26 s27 wx hx (Nat.le_refl _) (by omega) Hs26.out)
  have HNS := Lib.hid (fun wx hx => NamedS_any wx.heap.size (.slice (some ⟨b26, 0, none⟩) xs26.length c26) xs26 s27 wx hx (Nat.le_refl _) (by omega) Hs26.out)
  unfold RetPn at HNI HNS
  generalize pnV xs26 s27 = n28 at *
  generalize pnC xs26 s27 = C29 at *
  go_wp2_with fail
  refine (HNI.out _ R26.out).mono ?_; rintro e wn ⟨rfl, hb⟩
  have R3' := Lib.hid (rdN R3.out hb)
  have R9' := Lib.hid (rdN R9.out hb)
  have R11' := Lib.hid (rdN R11.out hb)
  have R13' := Lib.hid (rdN R13.out hb)
  have R15' := Lib.hid (rdN R15.out hb)
  have R17' := Lib.hid (rdN R17.out hb)
  have R19' := Lib.hid (rdN R19.out hb)
  have R22' := Lib.hid (rdN R22.out hb)
  have R24' := Lib.hid (rdN R24.out hb)
  have R26' := Lib.hid (rdN R26.out hb)
  clear R3; have R3 := R3'; clear R3'
  clear R9; have R9 := R9'; clear R9'
  clear R11; have R11 := R11'; clear R11'
  clear R13; have R13 := R13'; clear R13'
  clear R15; have R15 := R15'; clear R15'
  clear R17; have R17 := R17'; clear R17'
  clear R19; have R19 := R19'; clear R19'
  clear R22; have R22 := R22'; clear R22'
  clear R24; have R24 := R24'; clear R24'
  clear R26; have R26 := R26'; clear R26'
  have HB' := Lib.hid (HB.out.trans (hb.mono HB.out.size)); clear HB; have HB := HB'; clear HB'
  clear hb HNI
  go_wp2_with fail
  refine (HNS.out _ R26.out).mono ?_; rintro e wn ⟨rfl, hb⟩
  have R3' := Lib.hid (rdN R3.out hb)
  have R9' := Lib.hid (rdN R9.out hb)
  have R11' := Lib.hid (rdN R11.out hb)
  have R13' := Lib.hid (rdN R13.out hb)
  have R15' := Lib.hid (rdN R15.out hb)
  have R17' := Lib.hid (rdN R17.out hb)
  have R19' := Lib.hid (rdN R19.out hb)
  have R22' := Lib.hid (rdN R22.out hb)
  have R24' := Lib.hid (rdN R24.out hb)
  have R26' := Lib.hid (rdN R26.out hb)
  clear R3; have R3 := R3'; clear R3'
  clear R9; have R9 := R9'; clear R9'
  clear R11; have R11 := R11'; clear R11'
  clear R13; have R13 := R13'; clear R13'
  clear R15; have R15 := R15'; clear R15'
  clear R17; have R17 := R17'; clear R17'
  clear R19; have R19 := R19'; clear R19'
  clear R22; have R22 := R22'; clear R22'
  clear R24; have R24 := R24'; clear R24'
  clear R26; have R26 := R26'; clear R26'
  have HB' := Lib.hid (HB.out.trans (hb.mono HB.out.size)); clear HB; have HB := HB'; clear HB'
  clear hb HNS
  clear R26
  clear Hs26 hl26
  have HIs := Lib.hid (show (r19.isSome = true → r19 = some xs17 ∧ (T18.toList == []) = false) ∧ (r19.isSome = false → (T18.toList == []) = true) from by
    by_cases hT : T18 = ⟨#[]⟩
    · have h1 := HNil.out hT
      rw [h1]
      exact ⟨fun h => (by cases h), fun _ => by rw [hT, beq_iff_eq, ByteArray.toList_eq]⟩
    · have h1 := HBk.out hT
      rw [h1]
      exact ⟨fun _ => ⟨rfl, by rw [beq_eq_false_iff_ne]; intro e; exact hT (ba_inj (by rw [e, ByteArray.toList_eq]))⟩, fun h => (by cases h)⟩)
  clear HNil HBk
  cases ho20 : r19.isSome with
  | true =>
    obtain ⟨hr19, hT18⟩ := HIs.out.1 ho20
    subst hr19
    clear ho20 HIs hl19
    rw [show (some xs17).getD [] = xs17 from rfl] at *
    go_wp2_with fail
    refine (drawSP_any _ _ bs _ (HC.out.below HB.out) HB.out.size).mono ?_; rintro e wn ⟨v32, v33, l32, l33, rfl, h32, h33, hl32, hl33, hb⟩
    have R320 := Lib.hid (h32)
    have R330 := Lib.hid (h33)
    have R3' := Lib.hid (rdN R3.out hb)
    have R9' := Lib.hid (rdN R9.out hb)
    have R11' := Lib.hid (rdN R11.out hb)
    have R13' := Lib.hid (rdN R13.out hb)
    have R15' := Lib.hid (rdN R15.out hb)
    have R17' := Lib.hid (rdN R17.out hb)
    have R19' := Lib.hid (rdN R19.out hb)
    have R22' := Lib.hid (rdN R22.out hb)
    have R24' := Lib.hid (rdN R24.out hb)
    clear R3; have R3 := R3'; clear R3'
    clear R9; have R9 := R9'; clear R9'
    clear R11; have R11 := R11'; clear R11'
    clear R13; have R13 := R13'; clear R13'
    clear R15; have R15 := R15'; clear R15'
    clear R17; have R17 := R17'; clear R17'
    clear R19; have R19 := R19'; clear R19'
    clear R22; have R22 := R22'; clear R22'
    clear R24; have R24 := R24'; clear R24'
    have HB' := Lib.hid (HB.out.trans (hb.mono HB.out.size)); clear HB; have HB := HB'; clear HB'
    have R32 := R320; clear R320
    have R33 := R330; clear R330
    obtain ⟨A32, c32, rfl⟩ := RdP.slice h32
    obtain ⟨A33, c33, rfl⟩ := RdP.slice h33
    clear hb h32 h33 HC
    have HQI := Lib.hid (fun wx hx hy => SamePI_any wx.heap.size wx.heap.size (.slice A32 l32.length c32) (.slice A33 l33.length c33) l32 l33 wx hx hy (by omega))
    have HQS := Lib.hid (fun wx hx hy => SamePS_any wx.heap.size wx.heap.size (.slice A32 l32.length c32) (.slice A33 l33.length c33) l32 l33 wx hx hy (by omega))
    generalize decide (l32 = l33) = bq at *
    have HF := Lib.hid (f6ints_same _ _ _ _ P9.length _ _ wn (rd_natV R9.out) (rd_natV R11.out) (by omega) (fun _ _ => rfl))
    go_wp2_with fail
    refine HF.out.mono ?_; rintro e wm ⟨rfl, d, hd⟩
    have hb : Below wn.heap.size wn wm := by rw [hd]; exact below_drewN (Below.refl _ _) d
    clear HF
    have R3' := Lib.hid (rdN R3.out hb)
    have R9' := Lib.hid (rdN R9.out hb)
    have R11' := Lib.hid (rdN R11.out hb)
    have R13' := Lib.hid (rdN R13.out hb)
    have R15' := Lib.hid (rdN R15.out hb)
    have R17' := Lib.hid (rdN R17.out hb)
    have R19' := Lib.hid (rdN R19.out hb)
    have R22' := Lib.hid (rdN R22.out hb)
    have R24' := Lib.hid (rdN R24.out hb)
    have R32' := Lib.hid (rdN R32.out hb)
    have R33' := Lib.hid (rdN R33.out hb)
    clear R3; have R3 := R3'; clear R3'
    clear R9; have R9 := R9'; clear R9'
    clear R11; have R11 := R11'; clear R11'
    clear R13; have R13 := R13'; clear R13'
    clear R15; have R15 := R15'; clear R15'
    clear R17; have R17 := R17'; clear R17'
    clear R19; have R19 := R19'; clear R19'
    clear R22; have R22 := R22'; clear R22'
    clear R24; have R24 := R24'; clear R24'
    clear R32; have R32 := R32'; clear R32'
    clear R33; have R33 := R33'; clear R33'
    have HB' := Lib.hid (HB.out.trans (hb.mono HB.out.size)); clear HB; have HB := HB'; clear HB'
    clear hb hd
    obtain ⟨wn, rfl⟩ : ∃ z, z = wm := ⟨_, rfl⟩
    have HF := Lib.hid (f6ints_same _ _ _ _ U13.length _ _ wn (rd_natV R13.out) (rd_natV R15.out) (by omega) (fun _ _ => rfl))
    go_wp2_with fail
    refine HF.out.mono ?_; rintro e wm ⟨rfl, d, hd⟩
    have hb : Below wn.heap.size wn wm := by rw [hd]; exact below_drewN (Below.refl _ _) d
    clear HF
    have R3' := Lib.hid (rdN R3.out hb)
    have R9' := Lib.hid (rdN R9.out hb)
    have R11' := Lib.hid (rdN R11.out hb)
    have R13' := Lib.hid (rdN R13.out hb)
    have R15' := Lib.hid (rdN R15.out hb)
    have R17' := Lib.hid (rdN R17.out hb)
    have R19' := Lib.hid (rdN R19.out hb)
    have R22' := Lib.hid (rdN R22.out hb)
    have R24' := Lib.hid (rdN R24.out hb)
    have R32' := Lib.hid (rdN R32.out hb)
    have R33' := Lib.hid (rdN R33.out hb)
    clear R3; have R3 := R3'; clear R3'
    clear R9; have R9 := R9'; clear R9'
    clear R11; have R11 := R11'; clear R11'
    clear R13; have R13 := R13'; clear R13'
    clear R15; have R15 := R15'; clear R15'
    clear R17; have R17 := R17'; clear R17'
    clear R19; have R19 := R19'; clear R19'
    clear R22; have R22 := R22'; clear R22'
    clear R24; have R24 := R24'; clear R24'
    clear R32; have R32 := R32'; clear R32'
    clear R33; have R33 := R33'; clear R33'
    have HB' := Lib.hid (HB.out.trans (hb.mono HB.out.size)); clear HB; have HB := HB'; clear HB'
    clear hb hd
    obtain ⟨wn, rfl⟩ : ∃ z, z = wm := ⟨_, rfl⟩
    go_wp2_with fail
    refine (HXS.out _ R17.out).mono ?_; rintro e wn ⟨rfl, hb⟩
    have R3' := Lib.hid (rdN R3.out hb)
    have R9' := Lib.hid (rdN R9.out hb)
    have R11' := Lib.hid (rdN R11.out hb)
    have R13' := Lib.hid (rdN R13.out hb)
    have R15' := Lib.hid (rdN R15.out hb)
    have R17' := Lib.hid (rdN R17.out hb)
    have R19' := Lib.hid (rdN R19.out hb)
    have R22' := Lib.hid (rdN R22.out hb)
    have R24' := Lib.hid (rdN R24.out hb)
    have R32' := Lib.hid (rdN R32.out hb)
    have R33' := Lib.hid (rdN R33.out hb)
    clear R3; have R3 := R3'; clear R3'
    clear R9; have R9 := R9'; clear R9'
    clear R11; have R11 := R11'; clear R11'
    clear R13; have R13 := R13'; clear R13'
    clear R15; have R15 := R15'; clear R15'
    clear R17; have R17 := R17'; clear R17'
    clear R19; have R19 := R19'; clear R19'
    clear R22; have R22 := R22'; clear R22'
    clear R24; have R24 := R24'; clear R24'
    clear R32; have R32 := R32'; clear R32'
    clear R33; have R33 := R33'; clear R33'
    have HB' := Lib.hid (HB.out.trans (hb.mono HB.out.size)); clear HB; have HB := HB'; clear HB'
    clear hb HXS
    have HF := Lib.hid ((show Calls Tryd.prog 24 #[.slice A19 xs17.length c19, .slice (some ⟨b17, 0, none⟩) xs17.length c17] wn fun e w' => e = .returned (.bool true) ∧ ∃ n, w' = wn.drewN n from by have h := SamePS_any wn.heap.size wn.heap.size (.slice A19 xs17.length c19) (.slice (some ⟨b17, 0, none⟩) xs17.length c17) xs17 xs17 wn R19.out R17.out (by omega); rwa [decide_eq_true rfl] at h))
    go_wp2_with fail
    refine HF.out.mono ?_; rintro e wm ⟨rfl, d, hd⟩
    have hb : Below wn.heap.size wn wm := by rw [hd]; exact below_drewN (Below.refl _ _) d
    clear HF
    have R3' := Lib.hid (rdN R3.out hb)
    have R9' := Lib.hid (rdN R9.out hb)
    have R11' := Lib.hid (rdN R11.out hb)
    have R13' := Lib.hid (rdN R13.out hb)
    have R15' := Lib.hid (rdN R15.out hb)
    have R17' := Lib.hid (rdN R17.out hb)
    have R19' := Lib.hid (rdN R19.out hb)
    have R22' := Lib.hid (rdN R22.out hb)
    have R24' := Lib.hid (rdN R24.out hb)
    have R32' := Lib.hid (rdN R32.out hb)
    have R33' := Lib.hid (rdN R33.out hb)
    clear R3; have R3 := R3'; clear R3'
    clear R9; have R9 := R9'; clear R9'
    clear R11; have R11 := R11'; clear R11'
    clear R13; have R13 := R13'; clear R13'
    clear R15; have R15 := R15'; clear R15'
    clear R17; have R17 := R17'; clear R17'
    clear R19; have R19 := R19'; clear R19'
    clear R22; have R22 := R22'; clear R22'
    clear R24; have R24 := R24'; clear R24'
    clear R32; have R32 := R32'; clear R32'
    clear R33; have R33 := R33'; clear R33'
    have HB' := Lib.hid (HB.out.trans (hb.mono HB.out.size)); clear HB; have HB := HB'; clear HB'
    clear hb hd
    obtain ⟨wn, rfl⟩ : ∃ z, z = wm := ⟨_, rfl⟩
    clear R17
    clear R19
    clear Hs17 hl17
    have HF := Lib.hid ((show Calls Tryd.prog 24 #[.slice A22 xs22.length c22, .slice A24 xs22.length c24] wn fun e w' => e = .returned (.bool true) ∧ ∃ n, w' = wn.drewN n from by have h := SamePS_any wn.heap.size wn.heap.size (.slice A22 xs22.length c22) (.slice A24 xs22.length c24) xs22 xs22 wn R22.out R24.out (by omega); rwa [decide_eq_true rfl] at h))
    go_wp2_with fail
    refine HF.out.mono ?_; rintro e wm ⟨rfl, d, hd⟩
    have hb : Below wn.heap.size wn wm := by rw [hd]; exact below_drewN (Below.refl _ _) d
    clear HF
    have R3' := Lib.hid (rdN R3.out hb)
    have R9' := Lib.hid (rdN R9.out hb)
    have R11' := Lib.hid (rdN R11.out hb)
    have R13' := Lib.hid (rdN R13.out hb)
    have R15' := Lib.hid (rdN R15.out hb)
    have R22' := Lib.hid (rdN R22.out hb)
    have R24' := Lib.hid (rdN R24.out hb)
    have R32' := Lib.hid (rdN R32.out hb)
    have R33' := Lib.hid (rdN R33.out hb)
    clear R3; have R3 := R3'; clear R3'
    clear R9; have R9 := R9'; clear R9'
    clear R11; have R11 := R11'; clear R11'
    clear R13; have R13 := R13'; clear R13'
    clear R15; have R15 := R15'; clear R15'
    clear R22; have R22 := R22'; clear R22'
    clear R24; have R24 := R24'; clear R24'
    clear R32; have R32 := R32'; clear R32'
    clear R33; have R33 := R33'; clear R33'
    have HB' := Lib.hid (HB.out.trans (hb.mono HB.out.size)); clear HB; have HB := HB'; clear HB'
    clear hb hd
    obtain ⟨wn, rfl⟩ : ∃ z, z = wm := ⟨_, rfl⟩
    clear R22
    clear R24
    clear hl22
    have HF := Lib.hid (HQI.out wn R32.out R33.out)
    go_wp2_with fail
    refine HF.out.mono ?_; rintro e wm ⟨rfl, d, hd⟩
    have hb : Below wn.heap.size wn wm := by rw [hd]; exact below_drewN (Below.refl _ _) d
    clear HF
    have R3' := Lib.hid (rdN R3.out hb)
    have R9' := Lib.hid (rdN R9.out hb)
    have R11' := Lib.hid (rdN R11.out hb)
    have R13' := Lib.hid (rdN R13.out hb)
    have R15' := Lib.hid (rdN R15.out hb)
    have R32' := Lib.hid (rdN R32.out hb)
    have R33' := Lib.hid (rdN R33.out hb)
    clear R3; have R3 := R3'; clear R3'
    clear R9; have R9 := R9'; clear R9'
    clear R11; have R11 := R11'; clear R11'
    clear R13; have R13 := R13'; clear R13'
    clear R15; have R15 := R15'; clear R15'
    clear R32; have R32 := R32'; clear R32'
    clear R33; have R33 := R33'; clear R33'
    have HB' := Lib.hid (HB.out.trans (hb.mono HB.out.size)); clear HB; have HB := HB'; clear HB'
    clear hb hd
    obtain ⟨wn, rfl⟩ : ∃ z, z = wm := ⟨_, rfl⟩
    have HF := Lib.hid (HQS.out wn R32.out R33.out)
    go_wp2_with fail
    refine HF.out.mono ?_; rintro e wm ⟨rfl, d, hd⟩
    have hb : Below wn.heap.size wn wm := by rw [hd]; exact below_drewN (Below.refl _ _) d
    clear HF
    have R3' := Lib.hid (rdN R3.out hb)
    have R9' := Lib.hid (rdN R9.out hb)
    have R11' := Lib.hid (rdN R11.out hb)
    have R13' := Lib.hid (rdN R13.out hb)
    have R15' := Lib.hid (rdN R15.out hb)
    have R32' := Lib.hid (rdN R32.out hb)
    have R33' := Lib.hid (rdN R33.out hb)
    clear R3; have R3 := R3'; clear R3'
    clear R9; have R9 := R9'; clear R9'
    clear R11; have R11 := R11'; clear R11'
    clear R13; have R13 := R13'; clear R13'
    clear R15; have R15 := R15'; clear R15'
    clear R32; have R32 := R32'; clear R32'
    clear R33; have R33 := R33'; clear R33'
    have HB' := Lib.hid (HB.out.trans (hb.mono HB.out.size)); clear HB; have HB := HB'; clear HB'
    clear hb hd
    obtain ⟨wn, rfl⟩ : ∃ z, z = wm := ⟨_, rfl⟩
    clear R32
    clear R33
    clear HQI HQS hl32 hl33
    go_wp2_with fail
    refine (HVI.out _ R3.out).mono ?_; rintro e wn ⟨rfl, hb⟩
    have R3' := Lib.hid (rdN R3.out hb)
    have R9' := Lib.hid (rdN R9.out hb)
    have R11' := Lib.hid (rdN R11.out hb)
    have R13' := Lib.hid (rdN R13.out hb)
    have R15' := Lib.hid (rdN R15.out hb)
    clear R3; have R3 := R3'; clear R3'
    clear R9; have R9 := R9'; clear R9'
    clear R11; have R11 := R11'; clear R11'
    clear R13; have R13 := R13'; clear R13'
    clear R15; have R15 := R15'; clear R15'
    have HB' := Lib.hid (HB.out.trans (hb.mono HB.out.size)); clear HB; have HB := HB'; clear HB'
    clear hb HVI
    go_wp2_with fail
    refine (HVS.out _ R3.out).mono ?_; rintro e wn ⟨rfl, hb⟩
    have R3' := Lib.hid (rdN R3.out hb)
    have R9' := Lib.hid (rdN R9.out hb)
    have R11' := Lib.hid (rdN R11.out hb)
    have R13' := Lib.hid (rdN R13.out hb)
    have R15' := Lib.hid (rdN R15.out hb)
    clear R3; have R3 := R3'; clear R3'
    clear R9; have R9 := R9'; clear R9'
    clear R11; have R11 := R11'; clear R11'
    clear R13; have R13 := R13'; clear R13'
    clear R15; have R15 := R15'; clear R15'
    have HB' := Lib.hid (HB.out.trans (hb.mono HB.out.size)); clear HB; have HB := HB'; clear HB'
    clear hb HVS
    by_cases hc6 : C6 = 0
    · obtain ⟨j, rfl, hj, hP, hU, hn5, htb, hsh, h40, hcd, hun⟩ := HLaw.out hc6
      subst hc6 hn5
      have HS := Lib.hid hsh
      obtain ⟨f1, f2, f3, lz, f4⟩ := path_facts hsh hj
      rw [← hP] at f1 f2 f3 f4
      have HPl := Lib.hid (show P9.length = lz.length + 1 by rw [f4, List.length_append]; rfl)
      have HF1 := Lib.hid f1
      have HF2 := Lib.hid f2
      have HF3 := Lib.hid f3
      have HF4 := Lib.hid f4
      have Hcd := Lib.hid hcd
      have Hun := Lib.hid (show ∀ i ∈ U13, i < xs3.length ∧ j ∈ pathL xs3 i from by rw [hU]; exact hun)
      clear hP hU hsh f1 f2 f3 f4 hcd hun HLaw
      go_wp2_with fail
      go_loop [34, 35] (fun p i => ∃ k : Nat, k ≤ P9.length ∧ i = .int .i64 (k : Int) ∧ p = .int .i64 (prodE xs3 1 (P9.take k) : Int)) (fun _ i => P9.length - (intOf i).toNat)
      case atStart => exact ⟨0, Nat.zero_le _, rfl, rfl⟩
      case round =>
        obtain ⟨k, hk, rfl, rfl⟩ := hrel
        by_cases hlt : k < P9.length
        · have hlt' : (k : Int) < (P9.length : Int) := by omega
          obtain ⟨b11, o11, hA11, _, hc11⟩ := rdF_all (rd_natV R11.out) (show 0 < P9.length by omega)
          subst hA11
          have t1 := hc11 k hlt
          have hgd : P9.getD k 0 = P9[k] := by rw [List.getD_eq_getElem?_getD, List.getElem?_eq_getElem hlt]; rfl
          rw [hgd] at t1
          have hin := HF1.out P9[k] (List.getElem_mem hlt)
          have hst := prodE_snoc xs3 1 (P9.take k) P9[k]
          rw [← List.take_succ_eq_append_getElem hlt] at hst
          have hb1 := HF3.out k
          generalize P9[k] = m at *
          obtain ⟨hb3, ho3, hA3, hat⟩ := RdP.at (xs := xs3) R3.out m hin
          obtain ⟨rfl, rfl⟩ := adr_inj hA3
          have t2 := hat.c2
          rw [Nat.zero_add] at t2
          have he := HS.out.each m hin
          obtain ⟨E, hE⟩ : ∃ E : Nat, (pg xs3 m).each = (E : Int) := ⟨(pg xs3 m).each.toNat, by omega⟩
          rw [hE, Int.toNat_natCast] at hst
          rw [hE] at t2
          have hmb := Nat.mul_le_mul (show prodE xs3 1 (P9.take k) ≤ 1000000 by omega) (show E ≤ 100 by omega)
          have hwm : IntKind.i64.wrap ((prodE xs3 1 (P9.take k) : Int) * (E : Int)) = (prodE xs3 1 (P9.take (k + 1)) : Int) := by
            rw [← Int.natCast_mul, ← hst]
            exact IntWalk.i64_in _ (by omega)
          have hml : (m : Int) < (xs3.length : Int) := by omega
          clear hc11 hgd hst hb1 hat he hE hmb
          generalize prodE xs3 1 (P9.take k) = p1 at *
          obtain ⟨p2, hp2⟩ : ∃ z, prodE xs3 1 (P9.take (k + 1)) = z := ⟨_, rfl⟩
          rw [hp2] at hwm
          have Hp2 := Lib.hid hp2
          clear hp2
          go_wp2_with fail
          (try go_quiet (fail))
          (try go_wp2_with fail)
          go_round
          case rel => exact ⟨k + 1, by omega, by go_num, by rw [Hp2.out]⟩
          case measure => first | (simp [intOf]; done) | (simp [intOf]; omega)
        · obtain rfl : k = P9.length := by omega
          have hlt' : ¬ ((P9.length : Int) < (P9.length : Int)) := by omega
          rw [List.take_length, HF2.out]
          clear HF1 HF2 HF3
          go_wp2_with fail
          go_loopw [36, 39] (fun i _ wr => ∃ k : Nat, k ≤ U13.length ∧ i = .int .i64 (k : Int) ∧ Below wn.heap.size wn wr) (fun i _ _ => U13.length - (intOf i).toNat)
          case atStart => exact ⟨0, Nat.zero_le _, rfl, Below.refl _ _⟩
          case round =>
            obtain ⟨k, hk, rfl, hbr⟩ := hrel
            have Hbr := Lib.hid hbr
            by_cases hlu : k < U13.length
            · have hlu' : (k : Int) < (U13.length : Int) := by omega
              obtain ⟨b15, o15, hA15, _, hc15⟩ := rdF_all ((rd_natV R15.out).below hbr) (show 0 < U13.length by omega)
              subst hA15
              have t1 := hc15 k hlu
              have hgd : U13.getD k 0 = U13[k] := by rw [List.getD_eq_getElem?_getD, List.getElem?_eq_getElem hlu]; rfl
              rw [hgd] at t1
              obtain ⟨hui, hju⟩ := Hun.out U13[k] (List.getElem_mem hlu)
              obtain ⟨hcc, hpp⟩ := Hcd.out U13[k] hui
              have HP := Lib.hid (HPX.out (U13[k] : Int) wr (rdN R3.out hbr))
              have hlq := paC_len xs3 (U13[k] : Int)
              rw [hcc] at HP
              rw [hpp] at HP hlq
              have Hju := Lib.hid hju
              clear hc15 hgd hui hju hcc hpp hbr
              generalize pathL xs3 U13[k] = Q at *
              generalize U13[k] = u at *
              obtain ⟨wo, rfl⟩ : ∃ z, z = wr := ⟨_, rfl⟩
              go_wp2_with fail
              refine HP.out.mono ?_; rintro e wm ⟨v37, rfl, ho, hb⟩
              obtain ⟨A37, c37, rfl⟩ := own_sl ho
              have R37 := Lib.hid (rd_natV (Rd.of_own ho))
              have Hbm := Lib.hid (Hbr.out.trans (hb.mono Hbr.out.size))
              clear ho hb HP t1
              go_wp2_with fail
              go_loop [39, 40] (fun s i => ∃ m : Nat, m ≤ Q.length ∧ i = .int .i64 (m : Int) ∧ s = .bool (decide (j ∈ Q.take m))) (fun _ i => Q.length - (intOf i).toNat)
              case atStart => exact ⟨0, Nat.zero_le _, rfl, rfl⟩
              case round =>
                obtain ⟨m, hm, rfl, rfl⟩ := hrel
                by_cases hmq : m < Q.length
                · have hmq' : (m : Int) < (Q.length : Int) := by omega
                  have htk := mem_step (j := j) hmq
                  cases hd : decide (j ∈ Q.take m) with
                  | true =>
                    have Hd := Lib.hid (show decide (j ∈ Q.take (m + 1)) = true by rw [htk, hd, Bool.true_or])
                    clear hd htk
                    go_wp2_with fail
                    go_round
                    case rel => exact ⟨m + 1, by omega, by go_num, by rw [Hd.out]⟩
                    case measure => first | (simp [intOf]; done) | (simp [intOf]; omega)
                  | false =>
                    obtain ⟨b37, o37, hA37, _, hc37⟩ := rdF_all R37.out (show 0 < Q.length by omega)
                    subst hA37
                    have t1 := hc37 m hmq
                    have hgd : Q.getD m 0 = Q[m] := by rw [List.getD_eq_getElem?_getD, List.getElem?_eq_getElem hmq]; rfl
                    rw [hgd] at t1
                    by_cases hqj : Q[m] = j
                    · have Hd := Lib.hid (show decide (j ∈ Q.take (m + 1)) = true by rw [htk, decide_eq_true hqj, Bool.or_true])
                      rw [hqj] at t1
                      clear hd htk hc37 hgd hqj
                      go_wp2_with fail
                      go_round
                      case rel => exact ⟨m + 1, by omega, by go_num, by rw [Hd.out]⟩
                      case measure => first | (simp [intOf]; done) | (simp [intOf]; omega)
                    · have Hd := Lib.hid (show decide (j ∈ Q.take (m + 1)) = false by rw [htk, hd, decide_eq_false hqj, Bool.false_or])
                      have hqj' : ((Q[m] : Int) == (j : Int)) = false := by rw [beq_eq_false_iff_ne]; omega
                      clear hd htk hc37 hgd hqj
                      generalize Q[m] = y at *
                      go_wp2_with fail
                      go_round
                      case rel => exact ⟨m + 1, by omega, by go_num, by rw [Hd.out]⟩
                      case measure => first | (simp [intOf]; done) | (simp [intOf]; omega)
                · obtain rfl : m = Q.length := by omega
                  have hmq' : ¬ ((Q.length : Int) < (Q.length : Int)) := by omega
                  have hd : decide (j ∈ Q.take Q.length) = true := by rw [List.take_length]; exact decide_eq_true Hju.out
                  rw [hd]
                  clear hd
                  go_wp2_with fail
                  go_roundw
                  case rel => exact ⟨k + 1, by omega, by go_num, Hbm.out⟩
                  case measure => first | (simp [intOf]; done) | (simp [intOf]; omega)
            · obtain rfl : k = U13.length := by omega
              have hlu' : ¬ ((U13.length : Int) < (U13.length : Int)) := by omega
              obtain ⟨b11, o11, hA11, _, hc11⟩ := rdF_all ((rd_natV R11.out).below hbr) (show 0 < P9.length by have := HPl.out; omega)
              subst hA11
              have t1 := hc11 (P9.length - 1) (by have := HPl.out; omega)
              have hgd : P9.getD (P9.length - 1) 0 = 0 := by rw [HPl.out, HF4.out, List.getD_eq_getElem?_getD, Nat.add_sub_cancel, List.getElem?_append_right (Nat.le_refl _), Nat.sub_self]; rfl
              rw [hgd] at t1
              have hpos : (0 : Int) < (P9.length : Int) := by have := HPl.out; omega
              have hix : (P9.length : Int) - 1 = ((P9.length - 1 : Nat) : Int) := by omega
              have hwx : IntKind.i64.wrap ((P9.length : Int) - 1) = ((P9.length - 1 : Nat) : Int) := by rw [hix]; exact IntWalk.i64_in _ (by omega)
              have hxl : ((P9.length - 1 : Nat) : Int) < (P9.length : Int) := by omega
              have Hz := Lib.hid (HB.out.trans (hbr.mono HB.out.size))
              generalize P9.length - 1 = q at *
              clear hc11 hgd hix hbr
              go_wp2_with fail
              go_ret
              exact ⟨rfl, Hz.out⟩
    · have hc6' : (C6 == 0) = false := by simp [hc6]
      have hc6'' : (C6 != 0) = true := by simp [hc6]
      clear HLaw hc6
      go_wp2_with fail
      go_ret
      exact ⟨rfl, HB.out⟩
  | false =>
    have hT18 := HIs.out.2 ho20
    clear HIs ho20
    go_wp2_with fail
    refine (drawSP_any _ _ bs _ (HC.out.below HB.out) HB.out.size).mono ?_; rintro e wn ⟨v32, v33, l32, l33, rfl, h32, h33, hl32, hl33, hb⟩
    have R320 := Lib.hid (h32)
    have R330 := Lib.hid (h33)
    have R3' := Lib.hid (rdN R3.out hb)
    have R9' := Lib.hid (rdN R9.out hb)
    have R11' := Lib.hid (rdN R11.out hb)
    have R13' := Lib.hid (rdN R13.out hb)
    have R15' := Lib.hid (rdN R15.out hb)
    have R17' := Lib.hid (rdN R17.out hb)
    have R19' := Lib.hid (rdN R19.out hb)
    have R22' := Lib.hid (rdN R22.out hb)
    have R24' := Lib.hid (rdN R24.out hb)
    clear R3; have R3 := R3'; clear R3'
    clear R9; have R9 := R9'; clear R9'
    clear R11; have R11 := R11'; clear R11'
    clear R13; have R13 := R13'; clear R13'
    clear R15; have R15 := R15'; clear R15'
    clear R17; have R17 := R17'; clear R17'
    clear R19; have R19 := R19'; clear R19'
    clear R22; have R22 := R22'; clear R22'
    clear R24; have R24 := R24'; clear R24'
    have HB' := Lib.hid (HB.out.trans (hb.mono HB.out.size)); clear HB; have HB := HB'; clear HB'
    have R32 := R320; clear R320
    have R33 := R330; clear R330
    obtain ⟨A32, c32, rfl⟩ := RdP.slice h32
    obtain ⟨A33, c33, rfl⟩ := RdP.slice h33
    clear hb h32 h33 HC
    have HQI := Lib.hid (fun wx hx hy => SamePI_any wx.heap.size wx.heap.size (.slice A32 l32.length c32) (.slice A33 l33.length c33) l32 l33 wx hx hy (by omega))
    have HQS := Lib.hid (fun wx hx hy => SamePS_any wx.heap.size wx.heap.size (.slice A32 l32.length c32) (.slice A33 l33.length c33) l32 l33 wx hx hy (by omega))
    generalize decide (l32 = l33) = bq at *
    have HF := Lib.hid (f6ints_same _ _ _ _ P9.length _ _ wn (rd_natV R9.out) (rd_natV R11.out) (by omega) (fun _ _ => rfl))
    go_wp2_with fail
    refine HF.out.mono ?_; rintro e wm ⟨rfl, d, hd⟩
    have hb : Below wn.heap.size wn wm := by rw [hd]; exact below_drewN (Below.refl _ _) d
    clear HF
    have R3' := Lib.hid (rdN R3.out hb)
    have R9' := Lib.hid (rdN R9.out hb)
    have R11' := Lib.hid (rdN R11.out hb)
    have R13' := Lib.hid (rdN R13.out hb)
    have R15' := Lib.hid (rdN R15.out hb)
    have R17' := Lib.hid (rdN R17.out hb)
    have R19' := Lib.hid (rdN R19.out hb)
    have R22' := Lib.hid (rdN R22.out hb)
    have R24' := Lib.hid (rdN R24.out hb)
    have R32' := Lib.hid (rdN R32.out hb)
    have R33' := Lib.hid (rdN R33.out hb)
    clear R3; have R3 := R3'; clear R3'
    clear R9; have R9 := R9'; clear R9'
    clear R11; have R11 := R11'; clear R11'
    clear R13; have R13 := R13'; clear R13'
    clear R15; have R15 := R15'; clear R15'
    clear R17; have R17 := R17'; clear R17'
    clear R19; have R19 := R19'; clear R19'
    clear R22; have R22 := R22'; clear R22'
    clear R24; have R24 := R24'; clear R24'
    clear R32; have R32 := R32'; clear R32'
    clear R33; have R33 := R33'; clear R33'
    have HB' := Lib.hid (HB.out.trans (hb.mono HB.out.size)); clear HB; have HB := HB'; clear HB'
    clear hb hd
    obtain ⟨wn, rfl⟩ : ∃ z, z = wm := ⟨_, rfl⟩
    have HF := Lib.hid (f6ints_same _ _ _ _ U13.length _ _ wn (rd_natV R13.out) (rd_natV R15.out) (by omega) (fun _ _ => rfl))
    go_wp2_with fail
    refine HF.out.mono ?_; rintro e wm ⟨rfl, d, hd⟩
    have hb : Below wn.heap.size wn wm := by rw [hd]; exact below_drewN (Below.refl _ _) d
    clear HF
    have R3' := Lib.hid (rdN R3.out hb)
    have R9' := Lib.hid (rdN R9.out hb)
    have R11' := Lib.hid (rdN R11.out hb)
    have R13' := Lib.hid (rdN R13.out hb)
    have R15' := Lib.hid (rdN R15.out hb)
    have R17' := Lib.hid (rdN R17.out hb)
    have R19' := Lib.hid (rdN R19.out hb)
    have R22' := Lib.hid (rdN R22.out hb)
    have R24' := Lib.hid (rdN R24.out hb)
    have R32' := Lib.hid (rdN R32.out hb)
    have R33' := Lib.hid (rdN R33.out hb)
    clear R3; have R3 := R3'; clear R3'
    clear R9; have R9 := R9'; clear R9'
    clear R11; have R11 := R11'; clear R11'
    clear R13; have R13 := R13'; clear R13'
    clear R15; have R15 := R15'; clear R15'
    clear R17; have R17 := R17'; clear R17'
    clear R19; have R19 := R19'; clear R19'
    clear R22; have R22 := R22'; clear R22'
    clear R24; have R24 := R24'; clear R24'
    clear R32; have R32 := R32'; clear R32'
    clear R33; have R33 := R33'; clear R33'
    have HB' := Lib.hid (HB.out.trans (hb.mono HB.out.size)); clear HB; have HB := HB'; clear HB'
    clear hb hd
    obtain ⟨wn, rfl⟩ : ∃ z, z = wm := ⟨_, rfl⟩
    go_wp2_with fail
    refine (HXS.out _ R17.out).mono ?_; rintro e wn ⟨rfl, hb⟩
    have R3' := Lib.hid (rdN R3.out hb)
    have R9' := Lib.hid (rdN R9.out hb)
    have R11' := Lib.hid (rdN R11.out hb)
    have R13' := Lib.hid (rdN R13.out hb)
    have R15' := Lib.hid (rdN R15.out hb)
    have R17' := Lib.hid (rdN R17.out hb)
    have R19' := Lib.hid (rdN R19.out hb)
    have R22' := Lib.hid (rdN R22.out hb)
    have R24' := Lib.hid (rdN R24.out hb)
    have R32' := Lib.hid (rdN R32.out hb)
    have R33' := Lib.hid (rdN R33.out hb)
    clear R3; have R3 := R3'; clear R3'
    clear R9; have R9 := R9'; clear R9'
    clear R11; have R11 := R11'; clear R11'
    clear R13; have R13 := R13'; clear R13'
    clear R15; have R15 := R15'; clear R15'
    clear R17; have R17 := R17'; clear R17'
    clear R19; have R19 := R19'; clear R19'
    clear R22; have R22 := R22'; clear R22'
    clear R24; have R24 := R24'; clear R24'
    clear R32; have R32 := R32'; clear R32'
    clear R33; have R33 := R33'; clear R33'
    have HB' := Lib.hid (HB.out.trans (hb.mono HB.out.size)); clear HB; have HB := HB'; clear HB'
    clear hb HXS
    clear R17
    clear R19
    clear Hs17 hl17
    have HF := Lib.hid ((show Calls Tryd.prog 24 #[.slice A22 xs22.length c22, .slice A24 xs22.length c24] wn fun e w' => e = .returned (.bool true) ∧ ∃ n, w' = wn.drewN n from by have h := SamePS_any wn.heap.size wn.heap.size (.slice A22 xs22.length c22) (.slice A24 xs22.length c24) xs22 xs22 wn R22.out R24.out (by omega); rwa [decide_eq_true rfl] at h))
    go_wp2_with fail
    refine HF.out.mono ?_; rintro e wm ⟨rfl, d, hd⟩
    have hb : Below wn.heap.size wn wm := by rw [hd]; exact below_drewN (Below.refl _ _) d
    clear HF
    have R3' := Lib.hid (rdN R3.out hb)
    have R9' := Lib.hid (rdN R9.out hb)
    have R11' := Lib.hid (rdN R11.out hb)
    have R13' := Lib.hid (rdN R13.out hb)
    have R15' := Lib.hid (rdN R15.out hb)
    have R22' := Lib.hid (rdN R22.out hb)
    have R24' := Lib.hid (rdN R24.out hb)
    have R32' := Lib.hid (rdN R32.out hb)
    have R33' := Lib.hid (rdN R33.out hb)
    clear R3; have R3 := R3'; clear R3'
    clear R9; have R9 := R9'; clear R9'
    clear R11; have R11 := R11'; clear R11'
    clear R13; have R13 := R13'; clear R13'
    clear R15; have R15 := R15'; clear R15'
    clear R22; have R22 := R22'; clear R22'
    clear R24; have R24 := R24'; clear R24'
    clear R32; have R32 := R32'; clear R32'
    clear R33; have R33 := R33'; clear R33'
    have HB' := Lib.hid (HB.out.trans (hb.mono HB.out.size)); clear HB; have HB := HB'; clear HB'
    clear hb hd
    obtain ⟨wn, rfl⟩ : ∃ z, z = wm := ⟨_, rfl⟩
    clear R22
    clear R24
    clear hl22
    have HF := Lib.hid (HQI.out wn R32.out R33.out)
    go_wp2_with fail
    refine HF.out.mono ?_; rintro e wm ⟨rfl, d, hd⟩
    have hb : Below wn.heap.size wn wm := by rw [hd]; exact below_drewN (Below.refl _ _) d
    clear HF
    have R3' := Lib.hid (rdN R3.out hb)
    have R9' := Lib.hid (rdN R9.out hb)
    have R11' := Lib.hid (rdN R11.out hb)
    have R13' := Lib.hid (rdN R13.out hb)
    have R15' := Lib.hid (rdN R15.out hb)
    have R32' := Lib.hid (rdN R32.out hb)
    have R33' := Lib.hid (rdN R33.out hb)
    clear R3; have R3 := R3'; clear R3'
    clear R9; have R9 := R9'; clear R9'
    clear R11; have R11 := R11'; clear R11'
    clear R13; have R13 := R13'; clear R13'
    clear R15; have R15 := R15'; clear R15'
    clear R32; have R32 := R32'; clear R32'
    clear R33; have R33 := R33'; clear R33'
    have HB' := Lib.hid (HB.out.trans (hb.mono HB.out.size)); clear HB; have HB := HB'; clear HB'
    clear hb hd
    obtain ⟨wn, rfl⟩ : ∃ z, z = wm := ⟨_, rfl⟩
    have HF := Lib.hid (HQS.out wn R32.out R33.out)
    go_wp2_with fail
    refine HF.out.mono ?_; rintro e wm ⟨rfl, d, hd⟩
    have hb : Below wn.heap.size wn wm := by rw [hd]; exact below_drewN (Below.refl _ _) d
    clear HF
    have R3' := Lib.hid (rdN R3.out hb)
    have R9' := Lib.hid (rdN R9.out hb)
    have R11' := Lib.hid (rdN R11.out hb)
    have R13' := Lib.hid (rdN R13.out hb)
    have R15' := Lib.hid (rdN R15.out hb)
    have R32' := Lib.hid (rdN R32.out hb)
    have R33' := Lib.hid (rdN R33.out hb)
    clear R3; have R3 := R3'; clear R3'
    clear R9; have R9 := R9'; clear R9'
    clear R11; have R11 := R11'; clear R11'
    clear R13; have R13 := R13'; clear R13'
    clear R15; have R15 := R15'; clear R15'
    clear R32; have R32 := R32'; clear R32'
    clear R33; have R33 := R33'; clear R33'
    have HB' := Lib.hid (HB.out.trans (hb.mono HB.out.size)); clear HB; have HB := HB'; clear HB'
    clear hb hd
    obtain ⟨wn, rfl⟩ : ∃ z, z = wm := ⟨_, rfl⟩
    clear R32
    clear R33
    clear HQI HQS hl32 hl33
    go_wp2_with fail
    refine (HVI.out _ R3.out).mono ?_; rintro e wn ⟨rfl, hb⟩
    have R3' := Lib.hid (rdN R3.out hb)
    have R9' := Lib.hid (rdN R9.out hb)
    have R11' := Lib.hid (rdN R11.out hb)
    have R13' := Lib.hid (rdN R13.out hb)
    have R15' := Lib.hid (rdN R15.out hb)
    clear R3; have R3 := R3'; clear R3'
    clear R9; have R9 := R9'; clear R9'
    clear R11; have R11 := R11'; clear R11'
    clear R13; have R13 := R13'; clear R13'
    clear R15; have R15 := R15'; clear R15'
    have HB' := Lib.hid (HB.out.trans (hb.mono HB.out.size)); clear HB; have HB := HB'; clear HB'
    clear hb HVI
    go_wp2_with fail
    refine (HVS.out _ R3.out).mono ?_; rintro e wn ⟨rfl, hb⟩
    have R3' := Lib.hid (rdN R3.out hb)
    have R9' := Lib.hid (rdN R9.out hb)
    have R11' := Lib.hid (rdN R11.out hb)
    have R13' := Lib.hid (rdN R13.out hb)
    have R15' := Lib.hid (rdN R15.out hb)
    clear R3; have R3 := R3'; clear R3'
    clear R9; have R9 := R9'; clear R9'
    clear R11; have R11 := R11'; clear R11'
    clear R13; have R13 := R13'; clear R13'
    clear R15; have R15 := R15'; clear R15'
    have HB' := Lib.hid (HB.out.trans (hb.mono HB.out.size)); clear HB; have HB := HB'; clear HB'
    clear hb HVS
    by_cases hc6 : C6 = 0
    · obtain ⟨j, rfl, hj, hP, hU, hn5, htb, hsh, h40, hcd, hun⟩ := HLaw.out hc6
      subst hc6 hn5
      have HS := Lib.hid hsh
      obtain ⟨f1, f2, f3, lz, f4⟩ := path_facts hsh hj
      rw [← hP] at f1 f2 f3 f4
      have HPl := Lib.hid (show P9.length = lz.length + 1 by rw [f4, List.length_append]; rfl)
      have HF1 := Lib.hid f1
      have HF2 := Lib.hid f2
      have HF3 := Lib.hid f3
      have HF4 := Lib.hid f4
      have Hcd := Lib.hid hcd
      have Hun := Lib.hid (show ∀ i ∈ U13, i < xs3.length ∧ j ∈ pathL xs3 i from by rw [hU]; exact hun)
      clear hP hU hsh f1 f2 f3 f4 hcd hun HLaw
      go_wp2_with fail
      go_loop [34, 35] (fun p i => ∃ k : Nat, k ≤ P9.length ∧ i = .int .i64 (k : Int) ∧ p = .int .i64 (prodE xs3 1 (P9.take k) : Int)) (fun _ i => P9.length - (intOf i).toNat)
      case atStart => exact ⟨0, Nat.zero_le _, rfl, rfl⟩
      case round =>
        obtain ⟨k, hk, rfl, rfl⟩ := hrel
        by_cases hlt : k < P9.length
        · have hlt' : (k : Int) < (P9.length : Int) := by omega
          obtain ⟨b11, o11, hA11, _, hc11⟩ := rdF_all (rd_natV R11.out) (show 0 < P9.length by omega)
          subst hA11
          have t1 := hc11 k hlt
          have hgd : P9.getD k 0 = P9[k] := by rw [List.getD_eq_getElem?_getD, List.getElem?_eq_getElem hlt]; rfl
          rw [hgd] at t1
          have hin := HF1.out P9[k] (List.getElem_mem hlt)
          have hst := prodE_snoc xs3 1 (P9.take k) P9[k]
          rw [← List.take_succ_eq_append_getElem hlt] at hst
          have hb1 := HF3.out k
          generalize P9[k] = m at *
          obtain ⟨hb3, ho3, hA3, hat⟩ := RdP.at (xs := xs3) R3.out m hin
          obtain ⟨rfl, rfl⟩ := adr_inj hA3
          have t2 := hat.c2
          rw [Nat.zero_add] at t2
          have he := HS.out.each m hin
          obtain ⟨E, hE⟩ : ∃ E : Nat, (pg xs3 m).each = (E : Int) := ⟨(pg xs3 m).each.toNat, by omega⟩
          rw [hE, Int.toNat_natCast] at hst
          rw [hE] at t2
          have hmb := Nat.mul_le_mul (show prodE xs3 1 (P9.take k) ≤ 1000000 by omega) (show E ≤ 100 by omega)
          have hwm : IntKind.i64.wrap ((prodE xs3 1 (P9.take k) : Int) * (E : Int)) = (prodE xs3 1 (P9.take (k + 1)) : Int) := by
            rw [← Int.natCast_mul, ← hst]
            exact IntWalk.i64_in _ (by omega)
          have hml : (m : Int) < (xs3.length : Int) := by omega
          clear hc11 hgd hst hb1 hat he hE hmb
          generalize prodE xs3 1 (P9.take k) = p1 at *
          obtain ⟨p2, hp2⟩ : ∃ z, prodE xs3 1 (P9.take (k + 1)) = z := ⟨_, rfl⟩
          rw [hp2] at hwm
          have Hp2 := Lib.hid hp2
          clear hp2
          go_wp2_with fail
          (try go_quiet (fail))
          (try go_wp2_with fail)
          go_round
          case rel => exact ⟨k + 1, by omega, by go_num, by rw [Hp2.out]⟩
          case measure => first | (simp [intOf]; done) | (simp [intOf]; omega)
        · obtain rfl : k = P9.length := by omega
          have hlt' : ¬ ((P9.length : Int) < (P9.length : Int)) := by omega
          rw [List.take_length, HF2.out]
          clear HF1 HF2 HF3
          go_wp2_with fail
          go_loopw [36, 39] (fun i _ wr => ∃ k : Nat, k ≤ U13.length ∧ i = .int .i64 (k : Int) ∧ Below wn.heap.size wn wr) (fun i _ _ => U13.length - (intOf i).toNat)
          case atStart => exact ⟨0, Nat.zero_le _, rfl, Below.refl _ _⟩
          case round =>
            obtain ⟨k, hk, rfl, hbr⟩ := hrel
            have Hbr := Lib.hid hbr
            by_cases hlu : k < U13.length
            · have hlu' : (k : Int) < (U13.length : Int) := by omega
              obtain ⟨b15, o15, hA15, _, hc15⟩ := rdF_all ((rd_natV R15.out).below hbr) (show 0 < U13.length by omega)
              subst hA15
              have t1 := hc15 k hlu
              have hgd : U13.getD k 0 = U13[k] := by rw [List.getD_eq_getElem?_getD, List.getElem?_eq_getElem hlu]; rfl
              rw [hgd] at t1
              obtain ⟨hui, hju⟩ := Hun.out U13[k] (List.getElem_mem hlu)
              obtain ⟨hcc, hpp⟩ := Hcd.out U13[k] hui
              have HP := Lib.hid (HPX.out (U13[k] : Int) wr (rdN R3.out hbr))
              have hlq := paC_len xs3 (U13[k] : Int)
              rw [hcc] at HP
              rw [hpp] at HP hlq
              have Hju := Lib.hid hju
              clear hc15 hgd hui hju hcc hpp hbr
              generalize pathL xs3 U13[k] = Q at *
              generalize U13[k] = u at *
              obtain ⟨wo, rfl⟩ : ∃ z, z = wr := ⟨_, rfl⟩
              go_wp2_with fail
              refine HP.out.mono ?_; rintro e wm ⟨v37, rfl, ho, hb⟩
              obtain ⟨A37, c37, rfl⟩ := own_sl ho
              have R37 := Lib.hid (rd_natV (Rd.of_own ho))
              have Hbm := Lib.hid (Hbr.out.trans (hb.mono Hbr.out.size))
              clear ho hb HP t1
              go_wp2_with fail
              go_loop [39, 40] (fun s i => ∃ m : Nat, m ≤ Q.length ∧ i = .int .i64 (m : Int) ∧ s = .bool (decide (j ∈ Q.take m))) (fun _ i => Q.length - (intOf i).toNat)
              case atStart => exact ⟨0, Nat.zero_le _, rfl, rfl⟩
              case round =>
                obtain ⟨m, hm, rfl, rfl⟩ := hrel
                by_cases hmq : m < Q.length
                · have hmq' : (m : Int) < (Q.length : Int) := by omega
                  have htk := mem_step (j := j) hmq
                  cases hd : decide (j ∈ Q.take m) with
                  | true =>
                    have Hd := Lib.hid (show decide (j ∈ Q.take (m + 1)) = true by rw [htk, hd, Bool.true_or])
                    clear hd htk
                    go_wp2_with fail
                    go_round
                    case rel => exact ⟨m + 1, by omega, by go_num, by rw [Hd.out]⟩
                    case measure => first | (simp [intOf]; done) | (simp [intOf]; omega)
                  | false =>
                    obtain ⟨b37, o37, hA37, _, hc37⟩ := rdF_all R37.out (show 0 < Q.length by omega)
                    subst hA37
                    have t1 := hc37 m hmq
                    have hgd : Q.getD m 0 = Q[m] := by rw [List.getD_eq_getElem?_getD, List.getElem?_eq_getElem hmq]; rfl
                    rw [hgd] at t1
                    by_cases hqj : Q[m] = j
                    · have Hd := Lib.hid (show decide (j ∈ Q.take (m + 1)) = true by rw [htk, decide_eq_true hqj, Bool.or_true])
                      rw [hqj] at t1
                      clear hd htk hc37 hgd hqj
                      go_wp2_with fail
                      go_round
                      case rel => exact ⟨m + 1, by omega, by go_num, by rw [Hd.out]⟩
                      case measure => first | (simp [intOf]; done) | (simp [intOf]; omega)
                    · have Hd := Lib.hid (show decide (j ∈ Q.take (m + 1)) = false by rw [htk, hd, decide_eq_false hqj, Bool.false_or])
                      have hqj' : ((Q[m] : Int) == (j : Int)) = false := by rw [beq_eq_false_iff_ne]; omega
                      clear hd htk hc37 hgd hqj
                      generalize Q[m] = y at *
                      go_wp2_with fail
                      go_round
                      case rel => exact ⟨m + 1, by omega, by go_num, by rw [Hd.out]⟩
                      case measure => first | (simp [intOf]; done) | (simp [intOf]; omega)
                · obtain rfl : m = Q.length := by omega
                  have hmq' : ¬ ((Q.length : Int) < (Q.length : Int)) := by omega
                  have hd : decide (j ∈ Q.take Q.length) = true := by rw [List.take_length]; exact decide_eq_true Hju.out
                  rw [hd]
                  clear hd
                  go_wp2_with fail
                  go_roundw
                  case rel => exact ⟨k + 1, by omega, by go_num, Hbm.out⟩
                  case measure => first | (simp [intOf]; done) | (simp [intOf]; omega)
            · obtain rfl : k = U13.length := by omega
              have hlu' : ¬ ((U13.length : Int) < (U13.length : Int)) := by omega
              obtain ⟨b11, o11, hA11, _, hc11⟩ := rdF_all ((rd_natV R11.out).below hbr) (show 0 < P9.length by have := HPl.out; omega)
              subst hA11
              have t1 := hc11 (P9.length - 1) (by have := HPl.out; omega)
              have hgd : P9.getD (P9.length - 1) 0 = 0 := by rw [HPl.out, HF4.out, List.getD_eq_getElem?_getD, Nat.add_sub_cancel, List.getElem?_append_right (Nat.le_refl _), Nat.sub_self]; rfl
              rw [hgd] at t1
              have hpos : (0 : Int) < (P9.length : Int) := by have := HPl.out; omega
              have hix : (P9.length : Int) - 1 = ((P9.length - 1 : Nat) : Int) := by omega
              have hwx : IntKind.i64.wrap ((P9.length : Int) - 1) = ((P9.length - 1 : Nat) : Int) := by rw [hix]; exact IntWalk.i64_in _ (by omega)
              have hxl : ((P9.length - 1 : Nat) : Int) < (P9.length : Int) := by omega
              have Hz := Lib.hid (HB.out.trans (hbr.mono HB.out.size))
              generalize P9.length - 1 = q at *
              clear hc11 hgd hix hbr
              go_wp2_with fail
              go_ret
              exact ⟨rfl, Hz.out⟩
    · have hc6' : (C6 == 0) = false := by simp [hc6]
      have hc6'' : (C6 != 0) = true := by simp [hc6]
      clear HLaw hc6
      go_wp2_with fail
      go_ret
      exact ⟨rfl, HB.out⟩
end Go.Proofs.YtepgfcjfdnakbaaDoor
