/- Merged texts: Dl7. -/
import Derived.Test.YtmheijnckmlbnaaDoorGCardLoans6
import Derived.Test.YtmheijnckmlbnaaDoorGCardLoans8
import Derived.Test.YtmheijnckmlbnaaDoorGCardLoans5
import Derived.Test.YtmheijnckmlbnaaDoorGCardLoans7
/- The law FnLoans: the walk. -/
namespace Go.Proofs.YtmheijnckmlbnaaDoor
open Go.RowKit Go.Joins
theorem sl_of_ownL {w : World} {base n size : Nat} {e : TypeId} {v : Value} {cs : List Value} (h : w.ownsRow base e size v n cs) : ∃ A c, v = .slice A n c := by
  obtain ⟨_, A, c, hv, _⟩ := Rd.of_own h
  exact ⟨A, c, hv⟩

theorem undef_no {b : Bool} (h : some undef = some (Value.bool b)) : False := by
  injection h with h
  cases h
set_option maxRecDepth 100000 in
set_option maxHeartbeats 25600000 in
theorem walkFnLoans {W : World} (v : Value) (bs : List UInt8) (h : Rd W W.heap.size v bs.length 1 (bs.map byV)) (_hl : bs.length ≤ maxLen) (ht : Tab W) :
    Calls Tryd.prog 3 #[v] W fun e w' => e = .returned (.bool true) ∧ Below W.heap.size W w' := by
  have HB := Lib.hid (Below.refl W.heap.size W)
  have HC := Lib.hid h
  have Ht := Lib.hid ht; clear ht
  have HG := Lib.hid (f6big_l _ _ v _ W h)
  obtain ⟨_, A0, c0, rfl, _⟩ := h
  by_cases hbig : 4096 < bs.length
  · rw [decide_eq_true hbig] at HG
    clear hbig
    go_enter Tryd.func3, Tryd.ntmps3
    go_wp2_with fail
    refine HG.out.mono ?_; rintro e w1 ⟨rfl, rfl⟩
    go_wp2_with fail
    go_ret
    exact ⟨rfl, HB.out⟩
  rw [decide_eq_false hbig] at HG
  clear hbig
  go_enter Tryd.func3, Tryd.ntmps3
  go_wp2_with fail
  refine HG.out.mono ?_; rintro e w1 ⟨rfl, rfl⟩
  clear HG
  go_wp2_with fail
  refine (drawAL_any _ _ bs _ (HC.out.below HB.out) HB.out.size).mono ?_; rintro e wn ⟨v3, xs, ⟨xa, xb, xf, xt⟩, rfl, hn, hx⟩
  have RL0 := Lib.hid (Rd.of_own hn.own)
  have HB' := Lib.hid (HB.out.trans (hn.bel.mono HB.out.size)); clear HB; have HB := HB'; clear HB'
  have RL := RL0; clear RL0
  obtain ⟨b3, c3, rfl⟩ := hn.nn
  have Hc3 := Lib.hid (own_cap3 hn.own)
  have hl3 := hn.len
  have Hsx3 := Lib.hid hn.sm
  have Hsm3 := Lib.hid (show ∀ x ∈ xs, smL x from fun x hx => (hn.sm x hx).sm)
  clear hn
  have hm3 : xs.length ≤ 1048576 := by omega
  have Hx := Lib.hid hx.sm; clear hx
  have HAI := Lib.hid (fun wx hx => AddI_any wx.heap.size b3 0 c3 xs ⟨xa, xb, xf, xt⟩ wx hx (Nat.le_refl _) hm3 Hsm3.out Hx.out Hc3.out.1 Hc3.out.2)
  have HAS := Lib.hid (fun wx hx => AddS_any wx.heap.size b3 0 c3 xs ⟨xa, xb, xf, xt⟩ wx hx (Nat.le_refl _) hm3 Hsm3.out Hx.out Hc3.out.1 Hc3.out.2)
  have HVI := Lib.hid (fun wx (hx : RdL wx wx.heap.size (.slice (some ⟨b3, 0, none⟩) xs.length c3) xs) => ValidLoansI_any _ _ xs wx hx (Nat.le_refl _) hm3 Hsm3.out (fun A n c' e => by injection e with _ e2 e3; exact ⟨by have := Hc3.out.1; omega, by have := Hc3.out.2; omega⟩))
  have HVS := Lib.hid (fun wx (hx : RdL wx wx.heap.size (.slice (some ⟨b3, 0, none⟩) xs.length c3) xs) => ValidLoansS_any _ _ xs wx hx hm3 Hsm3.out)
  have hX : (addR xs ⟨xa, xb, xf, xt⟩).length ≤ 1048576 := by have := addR_len xs ⟨xa, xb, xf, xt⟩; omega
  have HsX := Lib.hid (show ∀ y ∈ addR xs ⟨xa, xb, xf, xt⟩, smL y from fun y hy => (addR_mem y hy).elim (fun h => Hsm3.out y h) (fun h => by rw [h]; exact Hx.out))
  have HL := Lib.hid (fun h => add_law2 (xs := xs) (x := ⟨xa, xb, xf, xt⟩) h)
  dsimp only at HL
  unfold RetLn at HAI HAS
  generalize addC xs ⟨xa, xb, xf, xt⟩ = C1 at *
  generalize addR xs ⟨xa, xb, xf, xt⟩ = X at *
  go_upto_region 4 with (fail)
  have hbw := (Below.refl wn.heap.size wn).alloc (Nat.le_refl _) (.cells #[.string xa, .string xb, .int .i64 xf, .int .i64 xt] 26)
  have HQ := Lib.hid (heap_alloc_new wn (.cells #[.string xa, .string xb, .int .i64 xf, .int .i64 xt] 26))
  have RL' := Lib.hid (rdNL RL.out hbw)
  clear RL; have RL := RL'; clear RL'
  have HB' := Lib.hid (HB.out.trans (hbw.mono HB.out.size)); clear HB; have HB := HB'; clear HB'
  clear hbw
  generalize hq : wn.heap.size = q at *
  generalize wn.alloc (.cells #[.string xa, .string xb, .int .i64 xf, .int .i64 xt] 26) = w5 at *
  clear hq
  obtain ⟨⟨p0, p1, p2, p3⟩, _⟩ := blk4 HQ.out
  go_wp2_with fail
  refine (HAI.out _ RL.out).mono ?_; rintro e wn ⟨v4, rfl, ho, hb⟩
  have RX0 := Lib.hid (Rd.of_own ho)
  have RL' := Lib.hid (rdNL RL.out hb)
  clear RL; have RL := RL'; clear RL'
  have HQ' := Lib.hid (blkN HQ.out hb); clear HQ; have HQ := HQ'; clear HQ'
  have HB' := Lib.hid (HB.out.trans (hb.mono HB.out.size)); clear HB; have HB := HB'; clear HB'
  have RX := RX0; clear RX0
  obtain ⟨A4, c4, rfl⟩ := sl_of_ownL ho
  have Hc4 := Lib.hid (own_cap3 ho)
  clear ho hb p0 p1 p2 p3 HAI
  obtain ⟨⟨p0, p1, p2, p3⟩, _⟩ := blk4 HQ.out
  go_wp2_with fail
  refine (HAS.out _ RL.out).mono ?_; rintro e wn ⟨v5, rfl, ho, hb⟩
  have RM0 := Lib.hid (Rd.of_own ho)
  have RL' := Lib.hid (rdNL RL.out hb)
  have RX' := Lib.hid (rdNL RX.out hb)
  clear RL; have RL := RL'; clear RL'
  clear RX; have RX := RX'; clear RX'
  have HQ' := Lib.hid (blkN HQ.out hb); clear HQ; have HQ := HQ'; clear HQ'
  have HB' := Lib.hid (HB.out.trans (hb.mono HB.out.size)); clear HB; have HB := HB'; clear HB'
  have RM := RM0; clear RM0
  obtain ⟨A5, c5, rfl⟩ := sl_of_ownL ho
  clear ho hb p0 p1 p2 p3 HAS
  go_wp2_with fail
  refine (drawCL_any _ _ bs _ (HC.out.below HB.out) HB.out.size).mono ?_; rintro e wn ⟨v6, cs, s, d, rfl, hn⟩
  have RC0 := Lib.hid (Rd.of_own hn.own)
  have RL' := Lib.hid (rdNL RL.out hn.bel)
  have RX' := Lib.hid (rdNL RX.out hn.bel)
  have RM' := Lib.hid (rdNL RM.out hn.bel)
  clear RL; have RL := RL'; clear RL'
  clear RX; have RX := RX'; clear RX'
  clear RM; have RM := RM'; clear RM'
  have HQ' := Lib.hid (blkN HQ.out hn.bel); clear HQ; have HQ := HQ'; clear HQ'
  have HB' := Lib.hid (HB.out.trans (hn.bel.mono HB.out.size)); clear HB; have HB := HB'; clear HB'
  have RC := RC0; clear RC0
  obtain ⟨b6, c6, rfl⟩ := hn.nn
  have Hc6 := Lib.hid (own_cap3 hn.own)
  have hl6 := hn.len
  have Hsx6 := Lib.hid hn.sm
  have Hsm6 := Lib.hid (show ∀ x ∈ cs, smL x from fun x hx => (hn.sm x hx).sm)
  clear hn
  have hm6 : cs.length ≤ 1048576 := by omega
  have HCI := Lib.hid (fun wx hx => CancelI_any wx.heap.size b6 0 c6 cs s d wx hx (Nat.le_refl _) hm6 Hsm6.out Hc6.out.1 Hc6.out.2)
  have HCS := Lib.hid (fun wx hx => CancelS_any wx.heap.size b6 0 c6 cs s d wx hx (Nat.le_refl _) hm6 Hsm6.out Hc6.out.1 Hc6.out.2)
  have HBI := Lib.hid (fun wx hx => BorrowI_any wx.heap.size b6 0 c6 cs s d wx hx (Nat.le_refl _) hm6 Hsm6.out Hc6.out.1 Hc6.out.2)
  have HRI := Lib.hid (fun wx hx => ReturnI_any wx.heap.size b6 0 c6 cs s d wx hx (Nat.le_refl _) hm6 Hsm6.out Hc6.out.1 Hc6.out.2)
  have HBS := Lib.hid (fun wx hx => BorrowS_any wx.heap.size b6 0 c6 cs s d wx hx (Nat.le_refl _) hm6 Hsm6.out)
  have HRS := Lib.hid (fun wx hx => ReturnS_any wx.heap.size b6 0 c6 cs s d wx hx (Nat.le_refl _) hm6 Hsm6.out)
  have hY : (canR cs s d).length ≤ 1048576 := by have := canR_len cs s d; omega
  have hZ : (retR cs s d).length ≤ 1048576 := by have := retR_len cs s d; omega
  have HsY := Lib.hid (show ∀ y ∈ canR cs s d, smL y from fun y hy => Hsm6.out y (canR_mem y hy))
  have HsZ := Lib.hid (retR_sm (s := s) (d := d) Hsx6.out)
  have HLC := Lib.hid (fun h => cancel_law (xs := cs) (s := s) (d := d) h)
  unfold RetLn at HCI HCS HRI HRS
  unfold RetBw at HBI HBS
  generalize canR cs s d = Y at *
  generalize retR cs s d = Z at *
  generalize askLc cs s d = C2 at *
  generalize borS cs s d = WHO at *
  go_wp2_with fail
  refine (HCI.out _ RC.out).mono ?_; rintro e wn ⟨v7, rfl, ho, hb⟩
  have RY0 := Lib.hid (Rd.of_own ho)
  have RL' := Lib.hid (rdNL RL.out hb)
  have RX' := Lib.hid (rdNL RX.out hb)
  have RM' := Lib.hid (rdNL RM.out hb)
  have RC' := Lib.hid (rdNL RC.out hb)
  clear RL; have RL := RL'; clear RL'
  clear RX; have RX := RX'; clear RX'
  clear RM; have RM := RM'; clear RM'
  clear RC; have RC := RC'; clear RC'
  have HQ' := Lib.hid (blkN HQ.out hb); clear HQ; have HQ := HQ'; clear HQ'
  have HB' := Lib.hid (HB.out.trans (hb.mono HB.out.size)); clear HB; have HB := HB'; clear HB'
  have RY := RY0; clear RY0
  obtain ⟨A7, c7, rfl⟩ := sl_of_ownL ho
  have Hc7 := Lib.hid (own_cap3 ho)
  clear ho hb
  go_wp2_with fail
  refine (HCS.out _ RC.out).mono ?_; rintro e wn ⟨v8, rfl, ho, hb⟩
  have RYS0 := Lib.hid (Rd.of_own ho)
  have RL' := Lib.hid (rdNL RL.out hb)
  have RX' := Lib.hid (rdNL RX.out hb)
  have RM' := Lib.hid (rdNL RM.out hb)
  have RC' := Lib.hid (rdNL RC.out hb)
  have RY' := Lib.hid (rdNL RY.out hb)
  clear RL; have RL := RL'; clear RL'
  clear RX; have RX := RX'; clear RX'
  clear RM; have RM := RM'; clear RM'
  clear RC; have RC := RC'; clear RC'
  clear RY; have RY := RY'; clear RY'
  have HQ' := Lib.hid (blkN HQ.out hb); clear HQ; have HQ := HQ'; clear HQ'
  have HB' := Lib.hid (HB.out.trans (hb.mono HB.out.size)); clear HB; have HB := HB'; clear HB'
  have RYS := RYS0; clear RYS0
  obtain ⟨A8, c8, rfl⟩ := sl_of_ownL ho
  have Hc8 := Lib.hid (own_cap3 ho)
  clear ho hb
  clear HCI HCS Hc8
  go_wp2_with fail
  refine (HBI.out _ RC.out).mono ?_; rintro e wn ⟨rfl, hb⟩
  have RL' := Lib.hid (rdNL RL.out hb)
  have RX' := Lib.hid (rdNL RX.out hb)
  have RM' := Lib.hid (rdNL RM.out hb)
  have RC' := Lib.hid (rdNL RC.out hb)
  have RY' := Lib.hid (rdNL RY.out hb)
  have RYS' := Lib.hid (rdNL RYS.out hb)
  clear RL; have RL := RL'; clear RL'
  clear RX; have RX := RX'; clear RX'
  clear RM; have RM := RM'; clear RM'
  clear RC; have RC := RC'; clear RC'
  clear RY; have RY := RY'; clear RY'
  clear RYS; have RYS := RYS'; clear RYS'
  have HQ' := Lib.hid (blkN HQ.out hb); clear HQ; have HQ := HQ'; clear HQ'
  have HB' := Lib.hid (HB.out.trans (hb.mono HB.out.size)); clear HB; have HB := HB'; clear HB'
  clear hb
  go_wp2_with fail
  refine (HBS.out _ RC.out).mono ?_; rintro e wn ⟨rfl, hb⟩
  have RL' := Lib.hid (rdNL RL.out hb)
  have RX' := Lib.hid (rdNL RX.out hb)
  have RM' := Lib.hid (rdNL RM.out hb)
  have RC' := Lib.hid (rdNL RC.out hb)
  have RY' := Lib.hid (rdNL RY.out hb)
  have RYS' := Lib.hid (rdNL RYS.out hb)
  clear RL; have RL := RL'; clear RL'
  clear RX; have RX := RX'; clear RX'
  clear RM; have RM := RM'; clear RM'
  clear RC; have RC := RC'; clear RC'
  clear RY; have RY := RY'; clear RY'
  clear RYS; have RYS := RYS'; clear RYS'
  have HQ' := Lib.hid (blkN HQ.out hb); clear HQ; have HQ := HQ'; clear HQ'
  have HB' := Lib.hid (HB.out.trans (hb.mono HB.out.size)); clear HB; have HB := HB'; clear HB'
  clear hb HBI HBS
  go_wp2_with fail
  refine (HRI.out _ RC.out).mono ?_; rintro e wn ⟨v9, rfl, ho, hb⟩
  have RZ0 := Lib.hid (Rd.of_own ho)
  have RL' := Lib.hid (rdNL RL.out hb)
  have RX' := Lib.hid (rdNL RX.out hb)
  have RM' := Lib.hid (rdNL RM.out hb)
  have RC' := Lib.hid (rdNL RC.out hb)
  have RY' := Lib.hid (rdNL RY.out hb)
  have RYS' := Lib.hid (rdNL RYS.out hb)
  clear RL; have RL := RL'; clear RL'
  clear RX; have RX := RX'; clear RX'
  clear RM; have RM := RM'; clear RM'
  clear RC; have RC := RC'; clear RC'
  clear RY; have RY := RY'; clear RY'
  clear RYS; have RYS := RYS'; clear RYS'
  have HQ' := Lib.hid (blkN HQ.out hb); clear HQ; have HQ := HQ'; clear HQ'
  have HB' := Lib.hid (HB.out.trans (hb.mono HB.out.size)); clear HB; have HB := HB'; clear HB'
  have RZ := RZ0; clear RZ0
  obtain ⟨A9, c9, rfl⟩ := sl_of_ownL ho
  have Hc9 := Lib.hid (own_cap3 ho)
  clear ho hb
  go_wp2_with fail
  refine (HRS.out _ RC.out).mono ?_; rintro e wn ⟨v10, rfl, ho, hb⟩
  have RZS0 := Lib.hid (Rd.of_own ho)
  have RL' := Lib.hid (rdNL RL.out hb)
  have RX' := Lib.hid (rdNL RX.out hb)
  have RM' := Lib.hid (rdNL RM.out hb)
  have RC' := Lib.hid (rdNL RC.out hb)
  have RY' := Lib.hid (rdNL RY.out hb)
  have RYS' := Lib.hid (rdNL RYS.out hb)
  have RZ' := Lib.hid (rdNL RZ.out hb)
  clear RL; have RL := RL'; clear RL'
  clear RX; have RX := RX'; clear RX'
  clear RM; have RM := RM'; clear RM'
  clear RC; have RC := RC'; clear RC'
  clear RY; have RY := RY'; clear RY'
  clear RYS; have RYS := RYS'; clear RYS'
  clear RZ; have RZ := RZ'; clear RZ'
  have HQ' := Lib.hid (blkN HQ.out hb); clear HQ; have HQ := HQ'; clear HQ'
  have HB' := Lib.hid (HB.out.trans (hb.mono HB.out.size)); clear HB; have HB := HB'; clear HB'
  have RZS := RZS0; clear RZS0
  obtain ⟨A10, c10, rfl⟩ := sl_of_ownL ho
  have Hc10 := Lib.hid (own_cap3 ho)
  clear ho hb
  clear HRI HRS Hc10
  clear RC
  clear Hc6 Hsm6 Hsx6 hl6 hm6
  go_wp2_with fail
  refine (drawLT_any _ _ bs _ (HC.out.below HB.out) HB.out.size).mono ?_; rintro e wn ⟨v11, ts, rfl, hn⟩
  have RT0 := Lib.hid (Rd.of_own hn.own)
  have RL' := Lib.hid (rdNL RL.out hn.bel)
  have RX' := Lib.hid (rdNL RX.out hn.bel)
  have RM' := Lib.hid (rdNL RM.out hn.bel)
  have RY' := Lib.hid (rdNL RY.out hn.bel)
  have RYS' := Lib.hid (rdNL RYS.out hn.bel)
  have RZ' := Lib.hid (rdNL RZ.out hn.bel)
  have RZS' := Lib.hid (rdNL RZS.out hn.bel)
  clear RL; have RL := RL'; clear RL'
  clear RX; have RX := RX'; clear RX'
  clear RM; have RM := RM'; clear RM'
  clear RY; have RY := RY'; clear RY'
  clear RYS; have RYS := RYS'; clear RYS'
  clear RZ; have RZ := RZ'; clear RZ'
  clear RZS; have RZS := RZS'; clear RZS'
  have HQ' := Lib.hid (blkN HQ.out hn.bel); clear HQ; have HQ := HQ'; clear HQ'
  have HB' := Lib.hid (HB.out.trans (hn.bel.mono HB.out.size)); clear HB; have HB := HB'; clear HB'
  have RT := RT0; clear RT0
  obtain ⟨b11, c11, rfl⟩ := hn.nn
  have Hc11 := Lib.hid (own_cap3 hn.own)
  have hl11 := hn.len
  have Hsx11 := Lib.hid hn.sm
  have Hsm11 := Lib.hid (show ∀ x ∈ ts, smL x from fun x hx => (hn.sm x hx).sm)
  clear hn
  have hm11 : ts.length ≤ 1048576 := by omega
  have HTI := Lib.hid (fun wx (hx : RdL wx wx.heap.size (.slice (some ⟨b11, 0, none⟩) ts.length c11) ts) hq => LoansTextI_any _ _ ts wx hx (Nat.le_refl _) hm11 Hsm11.out (fun A n c' e => by injection e with _ e2 e3; exact ⟨by have := Hc11.out.1; omega, by have := Hc11.out.2; omega⟩) hq)
  have HTS := Lib.hid (fun wx (hx : RdL wx wx.heap.size (.slice (some ⟨b11, 0, none⟩) ts.length c11) ts) => LoansTextS_any _ _ ts wx hx (Nat.le_refl _) hm11 Hsm11.out)
  have htz := txL_sz Hsx11.out
  have HRT := Lib.hid (fun wx hq => ReadLoansI_any (txL ts) wx htz hq)
  unfold RetRn at HRT
  have Hbk := Lib.hid (show txL ts ≠ ⟨#[]⟩ → (rdLoans (txL ts)).getD [] = ts ∧ (rdLoans (txL ts)).isSome = true from fun h => by rw [txL_back (xs := ts) h]; exact ⟨rfl, rfl⟩)
  have hbl := rdLoans_len (txL ts)
  clear htz
  generalize (rdLoans (txL ts)).getD [] = RBL at *
  generalize (rdLoans (txL ts)).isSome = RBB at *
  generalize txL ts = TX at *
  go_wp2_with fail
  refine (HTI.out _ RT.out (Ht.out.below HB.out)).mono ?_; rintro e wn ⟨rfl, hb⟩
  have RL' := Lib.hid (rdNL RL.out hb)
  have RX' := Lib.hid (rdNL RX.out hb)
  have RM' := Lib.hid (rdNL RM.out hb)
  have RY' := Lib.hid (rdNL RY.out hb)
  have RYS' := Lib.hid (rdNL RYS.out hb)
  have RZ' := Lib.hid (rdNL RZ.out hb)
  have RZS' := Lib.hid (rdNL RZS.out hb)
  have RT' := Lib.hid (rdNL RT.out hb)
  clear RL; have RL := RL'; clear RL'
  clear RX; have RX := RX'; clear RX'
  clear RM; have RM := RM'; clear RM'
  clear RY; have RY := RY'; clear RY'
  clear RYS; have RYS := RYS'; clear RYS'
  clear RZ; have RZ := RZ'; clear RZ'
  clear RZS; have RZS := RZS'; clear RZS'
  clear RT; have RT := RT'; clear RT'
  have HQ' := Lib.hid (blkN HQ.out hb); clear HQ; have HQ := HQ'; clear HQ'
  have HB' := Lib.hid (HB.out.trans (hb.mono HB.out.size)); clear HB; have HB := HB'; clear HB'
  clear hb HTI
  go_wp2_with fail
  refine (HRT.out _ (Ht.out.below HB.out)).mono ?_; rintro e wn ⟨v12, rfl, ho, hb⟩
  have RK0 := Lib.hid (Rd.of_own ho)
  have RL' := Lib.hid (rdNL RL.out hb)
  have RX' := Lib.hid (rdNL RX.out hb)
  have RM' := Lib.hid (rdNL RM.out hb)
  have RY' := Lib.hid (rdNL RY.out hb)
  have RYS' := Lib.hid (rdNL RYS.out hb)
  have RZ' := Lib.hid (rdNL RZ.out hb)
  have RZS' := Lib.hid (rdNL RZS.out hb)
  have RT' := Lib.hid (rdNL RT.out hb)
  clear RL; have RL := RL'; clear RL'
  clear RX; have RX := RX'; clear RX'
  clear RM; have RM := RM'; clear RM'
  clear RY; have RY := RY'; clear RY'
  clear RYS; have RYS := RYS'; clear RYS'
  clear RZ; have RZ := RZ'; clear RZ'
  clear RZS; have RZS := RZS'; clear RZS'
  clear RT; have RT := RT'; clear RT'
  have HQ' := Lib.hid (blkN HQ.out hb); clear HQ; have HQ := HQ'; clear HQ'
  have HB' := Lib.hid (HB.out.trans (hb.mono HB.out.size)); clear HB; have HB := HB'; clear HB'
  have RK := RK0; clear RK0
  obtain ⟨A12, c12, rfl⟩ := sl_of_ownL ho
  clear ho hb HRT
  go_wp2_with fail
  refine (drawRL_any _ _ bs _ (HC.out.below HB.out) HB.out.size).mono ?_; rintro e wn ⟨zz, rfl, hzz, hb⟩
  have RL' := Lib.hid (rdNL RL.out hb)
  have RX' := Lib.hid (rdNL RX.out hb)
  have RM' := Lib.hid (rdNL RM.out hb)
  have RY' := Lib.hid (rdNL RY.out hb)
  have RYS' := Lib.hid (rdNL RYS.out hb)
  have RZ' := Lib.hid (rdNL RZ.out hb)
  have RZS' := Lib.hid (rdNL RZS.out hb)
  have RT' := Lib.hid (rdNL RT.out hb)
  have RK' := Lib.hid (rdNL RK.out hb)
  clear RL; have RL := RL'; clear RL'
  clear RX; have RX := RX'; clear RX'
  clear RM; have RM := RM'; clear RM'
  clear RY; have RY := RY'; clear RY'
  clear RYS; have RYS := RYS'; clear RYS'
  clear RZ; have RZ := RZ'; clear RZ'
  clear RZS; have RZS := RZS'; clear RZS'
  clear RT; have RT := RT'; clear RT'
  clear RK; have RK := RK'; clear RK'
  have HQ' := Lib.hid (blkN HQ.out hb); clear HQ; have HQ := HQ'; clear HQ'
  have HB' := Lib.hid (HB.out.trans (hb.mono HB.out.size)); clear HB; have HB := HB'; clear HB'
  clear hb
  have HZI := Lib.hid (fun wx hq => ReadLoansI_any zz wx hzz hq)
  have HZS := Lib.hid (fun wx => ReadLoansS_any zz wx hzz)
  unfold RetRn at HZI HZS
  have hzl := rdLoans_len zz
  generalize rdLoans zz = RZZ at *
  have hzl1 : (RZZ.getD []).length ≤ 1048576 := by omega
  generalize RZZ.getD [] = UL at *
  generalize RZZ.isSome = UB at *
  go_wp2_with fail
  refine (HZI.out _ (Ht.out.below HB.out)).mono ?_; rintro e wn ⟨v13, rfl, ho, hb⟩
  have RU0 := Lib.hid (Rd.of_own ho)
  have RL' := Lib.hid (rdNL RL.out hb)
  have RX' := Lib.hid (rdNL RX.out hb)
  have RM' := Lib.hid (rdNL RM.out hb)
  have RY' := Lib.hid (rdNL RY.out hb)
  have RYS' := Lib.hid (rdNL RYS.out hb)
  have RZ' := Lib.hid (rdNL RZ.out hb)
  have RZS' := Lib.hid (rdNL RZS.out hb)
  have RT' := Lib.hid (rdNL RT.out hb)
  have RK' := Lib.hid (rdNL RK.out hb)
  clear RL; have RL := RL'; clear RL'
  clear RX; have RX := RX'; clear RX'
  clear RM; have RM := RM'; clear RM'
  clear RY; have RY := RY'; clear RY'
  clear RYS; have RYS := RYS'; clear RYS'
  clear RZ; have RZ := RZ'; clear RZ'
  clear RZS; have RZS := RZS'; clear RZS'
  clear RT; have RT := RT'; clear RT'
  clear RK; have RK := RK'; clear RK'
  have HQ' := Lib.hid (blkN HQ.out hb); clear HQ; have HQ := HQ'; clear HQ'
  have HB' := Lib.hid (HB.out.trans (hb.mono HB.out.size)); clear HB; have HB := HB'; clear HB'
  have RU := RU0; clear RU0
  obtain ⟨A13, c13, rfl⟩ := sl_of_ownL ho
  clear ho hb HZI
  go_wp2_with fail
  refine (HZS.out _).mono ?_; rintro e wn ⟨v14, rfl, ho, hb⟩
  have RV0 := Lib.hid (Rd.of_own ho)
  have RL' := Lib.hid (rdNL RL.out hb)
  have RX' := Lib.hid (rdNL RX.out hb)
  have RM' := Lib.hid (rdNL RM.out hb)
  have RY' := Lib.hid (rdNL RY.out hb)
  have RYS' := Lib.hid (rdNL RYS.out hb)
  have RZ' := Lib.hid (rdNL RZ.out hb)
  have RZS' := Lib.hid (rdNL RZS.out hb)
  have RT' := Lib.hid (rdNL RT.out hb)
  have RK' := Lib.hid (rdNL RK.out hb)
  have RU' := Lib.hid (rdNL RU.out hb)
  clear RL; have RL := RL'; clear RL'
  clear RX; have RX := RX'; clear RX'
  clear RM; have RM := RM'; clear RM'
  clear RY; have RY := RY'; clear RY'
  clear RYS; have RYS := RYS'; clear RYS'
  clear RZ; have RZ := RZ'; clear RZ'
  clear RZS; have RZS := RZS'; clear RZS'
  clear RT; have RT := RT'; clear RT'
  clear RK; have RK := RK'; clear RK'
  clear RU; have RU := RU'; clear RU'
  have HQ' := Lib.hid (blkN HQ.out hb); clear HQ; have HQ := HQ'; clear HQ'
  have HB' := Lib.hid (HB.out.trans (hb.mono HB.out.size)); clear HB; have HB := HB'; clear HB'
  have RV := RV0; clear RV0
  obtain ⟨A14, c14, rfl⟩ := sl_of_ownL ho
  clear ho hb HZS
  go_wp2_with fail
  refine (drawSL_any _ _ bs _ (HC.out.below HB.out) HB.out.size).mono ?_; rintro e wn ⟨v15, v16, l1, l2, rfl, ho1, ho2, hn1, hn2, hb⟩
  have RA0 := Lib.hid (Rd.of_own ho1)
  have RB20 := Lib.hid (Rd.of_own ho2)
  have RL' := Lib.hid (rdNL RL.out hb)
  have RX' := Lib.hid (rdNL RX.out hb)
  have RM' := Lib.hid (rdNL RM.out hb)
  have RY' := Lib.hid (rdNL RY.out hb)
  have RYS' := Lib.hid (rdNL RYS.out hb)
  have RZ' := Lib.hid (rdNL RZ.out hb)
  have RZS' := Lib.hid (rdNL RZS.out hb)
  have RT' := Lib.hid (rdNL RT.out hb)
  have RK' := Lib.hid (rdNL RK.out hb)
  have RU' := Lib.hid (rdNL RU.out hb)
  have RV' := Lib.hid (rdNL RV.out hb)
  clear RL; have RL := RL'; clear RL'
  clear RX; have RX := RX'; clear RX'
  clear RM; have RM := RM'; clear RM'
  clear RY; have RY := RY'; clear RY'
  clear RYS; have RYS := RYS'; clear RYS'
  clear RZ; have RZ := RZ'; clear RZ'
  clear RZS; have RZS := RZS'; clear RZS'
  clear RT; have RT := RT'; clear RT'
  clear RK; have RK := RK'; clear RK'
  clear RU; have RU := RU'; clear RU'
  clear RV; have RV := RV'; clear RV'
  have HQ' := Lib.hid (blkN HQ.out hb); clear HQ; have HQ := HQ'; clear HQ'
  have HB' := Lib.hid (HB.out.trans (hb.mono HB.out.size)); clear HB; have HB := HB'; clear HB'
  have RA := RA0; clear RA0
  have RB2 := RB20; clear RB20
  obtain ⟨A15, c15, rfl⟩ := sl_of_ownL ho1
  obtain ⟨A16, c16, rfl⟩ := sl_of_ownL ho2
  clear ho1 ho2 hb HC hzz
  have HSR := Lib.hid (fun wx v1 v2 (zs : List Ln) (h1 : RdL wx wx.heap.size v1 zs) (h2 : RdL wx wx.heap.size v2 zs) (hz : zs.length ≤ 1048576) => SameLS_any _ _ v1 v2 zs zs wx h1 h2 hz)
  simp only [decide_true] at HSR
  go_wp2_with fail
  refine (HSR.out _ _ _ X RX.out RM.out hX).mono ?_; rintro e wn ⟨rfl, n1, hw⟩
  have hb := below_eqL hw
  clear hw
  have RL' := Lib.hid (rdNL RL.out hb)
  have RX' := Lib.hid (rdNL RX.out hb)
  have RM' := Lib.hid (rdNL RM.out hb)
  have RY' := Lib.hid (rdNL RY.out hb)
  have RYS' := Lib.hid (rdNL RYS.out hb)
  have RZ' := Lib.hid (rdNL RZ.out hb)
  have RZS' := Lib.hid (rdNL RZS.out hb)
  have RT' := Lib.hid (rdNL RT.out hb)
  have RK' := Lib.hid (rdNL RK.out hb)
  have RU' := Lib.hid (rdNL RU.out hb)
  have RV' := Lib.hid (rdNL RV.out hb)
  have RA' := Lib.hid (rdNL RA.out hb)
  have RB2' := Lib.hid (rdNL RB2.out hb)
  clear RL; have RL := RL'; clear RL'
  clear RX; have RX := RX'; clear RX'
  clear RM; have RM := RM'; clear RM'
  clear RY; have RY := RY'; clear RY'
  clear RYS; have RYS := RYS'; clear RYS'
  clear RZ; have RZ := RZ'; clear RZ'
  clear RZS; have RZS := RZS'; clear RZS'
  clear RT; have RT := RT'; clear RT'
  clear RK; have RK := RK'; clear RK'
  clear RU; have RU := RU'; clear RU'
  clear RV; have RV := RV'; clear RV'
  clear RA; have RA := RA'; clear RA'
  clear RB2; have RB2 := RB2'; clear RB2'
  have HQ' := Lib.hid (blkN HQ.out hb); clear HQ; have HQ := HQ'; clear HQ'
  have HB' := Lib.hid (HB.out.trans (hb.mono HB.out.size)); clear HB; have HB := HB'; clear HB'
  clear hb
  clear RM
  go_wp2_with fail
  refine (HSR.out _ _ _ Y RY.out RYS.out hY).mono ?_; rintro e wn ⟨rfl, n2, hw⟩
  have hb := below_eqL hw
  clear hw
  have RL' := Lib.hid (rdNL RL.out hb)
  have RX' := Lib.hid (rdNL RX.out hb)
  have RY' := Lib.hid (rdNL RY.out hb)
  have RYS' := Lib.hid (rdNL RYS.out hb)
  have RZ' := Lib.hid (rdNL RZ.out hb)
  have RZS' := Lib.hid (rdNL RZS.out hb)
  have RT' := Lib.hid (rdNL RT.out hb)
  have RK' := Lib.hid (rdNL RK.out hb)
  have RU' := Lib.hid (rdNL RU.out hb)
  have RV' := Lib.hid (rdNL RV.out hb)
  have RA' := Lib.hid (rdNL RA.out hb)
  have RB2' := Lib.hid (rdNL RB2.out hb)
  clear RL; have RL := RL'; clear RL'
  clear RX; have RX := RX'; clear RX'
  clear RY; have RY := RY'; clear RY'
  clear RYS; have RYS := RYS'; clear RYS'
  clear RZ; have RZ := RZ'; clear RZ'
  clear RZS; have RZS := RZS'; clear RZS'
  clear RT; have RT := RT'; clear RT'
  clear RK; have RK := RK'; clear RK'
  clear RU; have RU := RU'; clear RU'
  clear RV; have RV := RV'; clear RV'
  clear RA; have RA := RA'; clear RA'
  clear RB2; have RB2 := RB2'; clear RB2'
  have HQ' := Lib.hid (blkN HQ.out hb); clear HQ; have HQ := HQ'; clear HQ'
  have HB' := Lib.hid (HB.out.trans (hb.mono HB.out.size)); clear HB; have HB := HB'; clear HB'
  clear hb
  clear RYS
  go_wp2_with fail
  refine (HSR.out _ _ _ Z RZ.out RZS.out hZ).mono ?_; rintro e wn ⟨rfl, n3, hw⟩
  have hb := below_eqL hw
  clear hw
  have RL' := Lib.hid (rdNL RL.out hb)
  have RX' := Lib.hid (rdNL RX.out hb)
  have RY' := Lib.hid (rdNL RY.out hb)
  have RZ' := Lib.hid (rdNL RZ.out hb)
  have RZS' := Lib.hid (rdNL RZS.out hb)
  have RT' := Lib.hid (rdNL RT.out hb)
  have RK' := Lib.hid (rdNL RK.out hb)
  have RU' := Lib.hid (rdNL RU.out hb)
  have RV' := Lib.hid (rdNL RV.out hb)
  have RA' := Lib.hid (rdNL RA.out hb)
  have RB2' := Lib.hid (rdNL RB2.out hb)
  clear RL; have RL := RL'; clear RL'
  clear RX; have RX := RX'; clear RX'
  clear RY; have RY := RY'; clear RY'
  clear RZ; have RZ := RZ'; clear RZ'
  clear RZS; have RZS := RZS'; clear RZS'
  clear RT; have RT := RT'; clear RT'
  clear RK; have RK := RK'; clear RK'
  clear RU; have RU := RU'; clear RU'
  clear RV; have RV := RV'; clear RV'
  clear RA; have RA := RA'; clear RA'
  clear RB2; have RB2 := RB2'; clear RB2'
  have HQ' := Lib.hid (blkN HQ.out hb); clear HQ; have HQ := HQ'; clear HQ'
  have HB' := Lib.hid (HB.out.trans (hb.mono HB.out.size)); clear HB; have HB := HB'; clear HB'
  clear hb
  clear RZS
  go_wp2_with fail
  refine (HTS.out _ RT.out).mono ?_; rintro e wn ⟨rfl, hb⟩
  have RL' := Lib.hid (rdNL RL.out hb)
  have RX' := Lib.hid (rdNL RX.out hb)
  have RY' := Lib.hid (rdNL RY.out hb)
  have RZ' := Lib.hid (rdNL RZ.out hb)
  have RT' := Lib.hid (rdNL RT.out hb)
  have RK' := Lib.hid (rdNL RK.out hb)
  have RU' := Lib.hid (rdNL RU.out hb)
  have RV' := Lib.hid (rdNL RV.out hb)
  have RA' := Lib.hid (rdNL RA.out hb)
  have RB2' := Lib.hid (rdNL RB2.out hb)
  clear RL; have RL := RL'; clear RL'
  clear RX; have RX := RX'; clear RX'
  clear RY; have RY := RY'; clear RY'
  clear RZ; have RZ := RZ'; clear RZ'
  clear RT; have RT := RT'; clear RT'
  clear RK; have RK := RK'; clear RK'
  clear RU; have RU := RU'; clear RU'
  clear RV; have RV := RV'; clear RV'
  clear RA; have RA := RA'; clear RA'
  clear RB2; have RB2 := RB2'; clear RB2'
  have HQ' := Lib.hid (blkN HQ.out hb); clear HQ; have HQ := HQ'; clear HQ'
  have HB' := Lib.hid (HB.out.trans (hb.mono HB.out.size)); clear HB; have HB := HB'; clear HB'
  clear hb HTS
  by_cases htx : TX = ⟨#[]⟩
  · subst htx
    clear RT
    clear RK
    clear Hbk
    go_wp2_with fail
    iterate 2 exact (undef_no (by assumption)).elim
    refine (HSR.out _ _ _ UL RU.out RV.out hzl1).mono ?_; rintro e wn ⟨rfl, n5, hw⟩
    have hb := below_eqL hw
    clear hw
    have RL' := Lib.hid (rdNL RL.out hb)
    have RX' := Lib.hid (rdNL RX.out hb)
    have RY' := Lib.hid (rdNL RY.out hb)
    have RZ' := Lib.hid (rdNL RZ.out hb)
    have RU' := Lib.hid (rdNL RU.out hb)
    have RV' := Lib.hid (rdNL RV.out hb)
    have RA' := Lib.hid (rdNL RA.out hb)
    have RB2' := Lib.hid (rdNL RB2.out hb)
    clear RL; have RL := RL'; clear RL'
    clear RX; have RX := RX'; clear RX'
    clear RY; have RY := RY'; clear RY'
    clear RZ; have RZ := RZ'; clear RZ'
    clear RU; have RU := RU'; clear RU'
    clear RV; have RV := RV'; clear RV'
    clear RA; have RA := RA'; clear RA'
    clear RB2; have RB2 := RB2'; clear RB2'
    have HQ' := Lib.hid (blkN HQ.out hb); clear HQ; have HQ := HQ'; clear HQ'
    have HB' := Lib.hid (HB.out.trans (hb.mono HB.out.size)); clear HB; have HB := HB'; clear HB'
    clear hb
    clear RU
    clear RV
    go_wp2_with fail
    refine (SameLI_any _ _ _ _ l1 l2 _ RA.out RB2.out (by omega)).mono ?_; rintro e wn ⟨rfl, n6, hw⟩
    have hb := below_eqL hw
    clear hw
    have RL' := Lib.hid (rdNL RL.out hb)
    have RX' := Lib.hid (rdNL RX.out hb)
    have RY' := Lib.hid (rdNL RY.out hb)
    have RZ' := Lib.hid (rdNL RZ.out hb)
    have RA' := Lib.hid (rdNL RA.out hb)
    have RB2' := Lib.hid (rdNL RB2.out hb)
    clear RL; have RL := RL'; clear RL'
    clear RX; have RX := RX'; clear RX'
    clear RY; have RY := RY'; clear RY'
    clear RZ; have RZ := RZ'; clear RZ'
    clear RA; have RA := RA'; clear RA'
    clear RB2; have RB2 := RB2'; clear RB2'
    have HQ' := Lib.hid (blkN HQ.out hb); clear HQ; have HQ := HQ'; clear HQ'
    have HB' := Lib.hid (HB.out.trans (hb.mono HB.out.size)); clear HB; have HB := HB'; clear HB'
    clear hb
    go_wp2_with fail
    refine (SameLS_any _ _ _ _ l1 l2 _ RA.out RB2.out (by omega)).mono ?_; rintro e wn ⟨rfl, n7, hw⟩
    have hb := below_eqL hw
    clear hw
    have RL' := Lib.hid (rdNL RL.out hb)
    have RX' := Lib.hid (rdNL RX.out hb)
    have RY' := Lib.hid (rdNL RY.out hb)
    have RZ' := Lib.hid (rdNL RZ.out hb)
    have RA' := Lib.hid (rdNL RA.out hb)
    have RB2' := Lib.hid (rdNL RB2.out hb)
    clear RL; have RL := RL'; clear RL'
    clear RX; have RX := RX'; clear RX'
    clear RY; have RY := RY'; clear RY'
    clear RZ; have RZ := RZ'; clear RZ'
    clear RA; have RA := RA'; clear RA'
    clear RB2; have RB2 := RB2'; clear RB2'
    have HQ' := Lib.hid (blkN HQ.out hb); clear HQ; have HQ := HQ'; clear HQ'
    have HB' := Lib.hid (HB.out.trans (hb.mono HB.out.size)); clear HB; have HB := HB'; clear HB'
    clear hb
    clear RA
    clear RB2
    generalize decide (l1 = l2) = D at *
    go_wp2_with fail
    refine (HVI.out _ RL.out).mono ?_; rintro e wn ⟨rfl, hb⟩
    have RL' := Lib.hid (rdNL RL.out hb)
    have RX' := Lib.hid (rdNL RX.out hb)
    have RY' := Lib.hid (rdNL RY.out hb)
    have RZ' := Lib.hid (rdNL RZ.out hb)
    clear RL; have RL := RL'; clear RL'
    clear RX; have RX := RX'; clear RX'
    clear RY; have RY := RY'; clear RY'
    clear RZ; have RZ := RZ'; clear RZ'
    have HQ' := Lib.hid (blkN HQ.out hb); clear HQ; have HQ := HQ'; clear HQ'
    have HB' := Lib.hid (HB.out.trans (hb.mono HB.out.size)); clear HB; have HB := HB'; clear HB'
    clear hb HVI
    go_wp2_with fail
    refine (HVS.out _ RL.out).mono ?_; rintro e wn ⟨rfl, n8, hw⟩
    have hb := below_eqL hw
    clear hw
    have RL' := Lib.hid (rdNL RL.out hb)
    have RX' := Lib.hid (rdNL RX.out hb)
    have RY' := Lib.hid (rdNL RY.out hb)
    have RZ' := Lib.hid (rdNL RZ.out hb)
    clear RL; have RL := RL'; clear RL'
    clear RX; have RX := RX'; clear RX'
    clear RY; have RY := RY'; clear RY'
    clear RZ; have RZ := RZ'; clear RZ'
    have HQ' := Lib.hid (blkN HQ.out hb); clear HQ; have HQ := HQ'; clear HQ'
    have HB' := Lib.hid (HB.out.trans (hb.mono HB.out.size)); clear HB; have HB := HB'; clear HB'
    clear hb
    clear HVS
    by_cases hc2 : C2 = 0
    · subst hc2
      obtain ⟨g1, g2, g3⟩ := HLC.out rfl
      have HBY := Lib.hid (fun wx (hx : RdL wx wx.heap.size (.slice A7 Y.length c7) Y) => BorrowN_any _ _ Y s d wx hx (Nat.le_refl _) hY HsY.out (fun A n c' e => by injection e with _ e2 e3; exact ⟨by have := Hc7.out.1; omega, by have := Hc7.out.2; omega⟩) g1 g2)
      have HVY := Lib.hid (fun wx (hx : RdL wx wx.heap.size (.slice A7 Y.length c7) Y) => ValidLoansI_any _ _ Y wx hx (Nat.le_refl _) hY HsY.out (fun A n c' e => by injection e with _ e2 e3; exact ⟨by have := Hc7.out.1; omega, by have := Hc7.out.2; omega⟩))
      have HVZ := Lib.hid (fun wx (hx : RdL wx wx.heap.size (.slice A9 Z.length c9) Z) => ValidLoansI_any _ _ Z wx hx (Nat.le_refl _) hZ HsZ.out (fun A n c' e => by injection e with _ e2 e3; exact ⟨by have := Hc9.out.1; omega, by have := Hc9.out.2; omega⟩))
      rw [g1] at HVY
      rw [g3] at HVZ
      clear g1 g2 g3 HLC
      go_wp2_with fail
      refine (HBY.out _ RY.out).mono ?_; rintro e wn ⟨rfl, hb⟩
      have RL' := Lib.hid (rdNL RL.out hb)
      have RX' := Lib.hid (rdNL RX.out hb)
      have RY' := Lib.hid (rdNL RY.out hb)
      have RZ' := Lib.hid (rdNL RZ.out hb)
      clear RL; have RL := RL'; clear RL'
      clear RX; have RX := RX'; clear RX'
      clear RY; have RY := RY'; clear RY'
      clear RZ; have RZ := RZ'; clear RZ'
      have HQ' := Lib.hid (blkN HQ.out hb); clear HQ; have HQ := HQ'; clear HQ'
      have HB' := Lib.hid (HB.out.trans (hb.mono HB.out.size)); clear HB; have HB := HB'; clear HB'
      clear hb HBY
      go_wp2_with fail
      refine (HVY.out _ RY.out).mono ?_; rintro e wn ⟨rfl, hb⟩
      have RL' := Lib.hid (rdNL RL.out hb)
      have RX' := Lib.hid (rdNL RX.out hb)
      have RY' := Lib.hid (rdNL RY.out hb)
      have RZ' := Lib.hid (rdNL RZ.out hb)
      clear RL; have RL := RL'; clear RL'
      clear RX; have RX := RX'; clear RX'
      clear RY; have RY := RY'; clear RY'
      clear RZ; have RZ := RZ'; clear RZ'
      have HQ' := Lib.hid (blkN HQ.out hb); clear HQ; have HQ := HQ'; clear HQ'
      have HB' := Lib.hid (HB.out.trans (hb.mono HB.out.size)); clear HB; have HB := HB'; clear HB'
      clear hb HVY
      go_wp2_with fail
      refine (HVZ.out _ RZ.out).mono ?_; rintro e wn ⟨rfl, hb⟩
      have RL' := Lib.hid (rdNL RL.out hb)
      have RX' := Lib.hid (rdNL RX.out hb)
      have RY' := Lib.hid (rdNL RY.out hb)
      have RZ' := Lib.hid (rdNL RZ.out hb)
      clear RL; have RL := RL'; clear RL'
      clear RX; have RX := RX'; clear RX'
      clear RY; have RY := RY'; clear RY'
      clear RZ; have RZ := RZ'; clear RZ'
      have HQ' := Lib.hid (blkN HQ.out hb); clear HQ; have HQ := HQ'; clear HQ'
      have HB' := Lib.hid (HB.out.trans (hb.mono HB.out.size)); clear HB; have HB := HB'; clear HB'
      clear hb HVZ
      clear RY
      clear RZ
      by_cases hc1 : C1 = 0
      · subst hc1
        obtain ⟨⟨g1, g2⟩, ⟨g3, g4, g5⟩, g6⟩ := HL.out rfl
        obtain ⟨bx, ox, rfl⟩ := rdL_some RX.out g6
        have HB1 := Lib.hid (fun wx hx => BorrowI_any wx.heap.size bx ox c4 X xa xf wx hx (Nat.le_refl _) hX HsX.out Hc4.out.1 Hc4.out.2)
        have HB2 := Lib.hid (fun wx hx => BorrowI_any wx.heap.size bx ox c4 X xa xt wx hx (Nat.le_refl _) hX HsX.out Hc4.out.1 Hc4.out.2)
        have HCX := Lib.hid (fun wx hx => CancelI_any wx.heap.size bx ox c4 X xa xt wx hx (Nat.le_refl _) hX HsX.out Hc4.out.1 Hc4.out.2)
        unfold RetBw at HB1 HB2
        unfold RetLn at HCX
        rw [g1, g2] at HB1
        rw [g3, g4] at HB2
        rw [g3, g5] at HCX
        clear g1 g2 g3 g4 g5 g6 HL
        obtain ⟨⟨p0, p1, p2, p3⟩, _⟩ := blk4 HQ.out
        go_wp2_with fail
        refine (HB1.out _ RX.out).mono ?_; rintro e wn ⟨rfl, hb⟩
        have RL' := Lib.hid (rdNL RL.out hb)
        have RX' := Lib.hid (rdNL RX.out hb)
        clear RL; have RL := RL'; clear RL'
        clear RX; have RX := RX'; clear RX'
        have HQ' := Lib.hid (blkN HQ.out hb); clear HQ; have HQ := HQ'; clear HQ'
        have HB' := Lib.hid (HB.out.trans (hb.mono HB.out.size)); clear HB; have HB := HB'; clear HB'
        clear hb p0 p1 p2 p3 HB1
        obtain ⟨⟨p0, p1, p2, p3⟩, _⟩ := blk4 HQ.out
        go_wp2_with fail
        refine (HB2.out _ RX.out).mono ?_; rintro e wn ⟨rfl, hb⟩
        have RL' := Lib.hid (rdNL RL.out hb)
        have RX' := Lib.hid (rdNL RX.out hb)
        clear RL; have RL := RL'; clear RL'
        clear RX; have RX := RX'; clear RX'
        have HQ' := Lib.hid (blkN HQ.out hb); clear HQ; have HQ := HQ'; clear HQ'
        have HB' := Lib.hid (HB.out.trans (hb.mono HB.out.size)); clear HB; have HB := HB'; clear HB'
        clear hb p0 p1 p2 p3 HB2
        obtain ⟨⟨p0, p1, p2, p3⟩, _⟩ := blk4 HQ.out
        go_wp2_with fail
        refine (HCX.out _ RX.out).mono ?_; rintro e wn ⟨v20, rfl, ho, hb⟩
        have RN0 := Lib.hid (Rd.of_own ho)
        have RL' := Lib.hid (rdNL RL.out hb)
        have RX' := Lib.hid (rdNL RX.out hb)
        clear RL; have RL := RL'; clear RL'
        clear RX; have RX := RX'; clear RX'
        have HQ' := Lib.hid (blkN HQ.out hb); clear HQ; have HQ := HQ'; clear HQ'
        have HB' := Lib.hid (HB.out.trans (hb.mono HB.out.size)); clear HB; have HB := HB'; clear HB'
        have RN := RN0; clear RN0
        obtain ⟨A20, c20, rfl⟩ := sl_of_ownL ho
        clear ho hb p0 p1 p2 p3 HCX
        clear RX
        obtain ⟨⟨p0, p1, p2, p3⟩, _⟩ := blk4 HQ.out
        go_wp2_with fail
        refine (HSR.out _ _ _ xs RN.out RL.out hm3).mono ?_; rintro e wn ⟨rfl, n9, hw⟩
        have hb := below_eqL hw
        clear hw
        have RL' := Lib.hid (rdNL RL.out hb)
        have RN' := Lib.hid (rdNL RN.out hb)
        clear RL; have RL := RL'; clear RL'
        clear RN; have RN := RN'; clear RN'
        have HQ' := Lib.hid (blkN HQ.out hb); clear HQ; have HQ := HQ'; clear HQ'
        have HB' := Lib.hid (HB.out.trans (hb.mono HB.out.size)); clear HB; have HB := HB'; clear HB'
        clear hb
        go_wp2_with fail
        go_ret
        exact ⟨rfl, HB.out⟩
      · have hc1' : (C1 == 0) = false := by rw [beq_eq_false_iff_ne]; exact hc1
        clear hc1 HL
        go_wp2_with fail
        go_ret
        exact ⟨rfl, HB.out⟩
    · have hc2' : (C2 == 0) = false := by rw [beq_eq_false_iff_ne]; exact hc2
      clear hc2 HLC
      clear RY
      clear RZ
      by_cases hc1 : C1 = 0
      · subst hc1
        obtain ⟨⟨g1, g2⟩, ⟨g3, g4, g5⟩, g6⟩ := HL.out rfl
        obtain ⟨bx, ox, rfl⟩ := rdL_some RX.out g6
        have HB1 := Lib.hid (fun wx hx => BorrowI_any wx.heap.size bx ox c4 X xa xf wx hx (Nat.le_refl _) hX HsX.out Hc4.out.1 Hc4.out.2)
        have HB2 := Lib.hid (fun wx hx => BorrowI_any wx.heap.size bx ox c4 X xa xt wx hx (Nat.le_refl _) hX HsX.out Hc4.out.1 Hc4.out.2)
        have HCX := Lib.hid (fun wx hx => CancelI_any wx.heap.size bx ox c4 X xa xt wx hx (Nat.le_refl _) hX HsX.out Hc4.out.1 Hc4.out.2)
        unfold RetBw at HB1 HB2
        unfold RetLn at HCX
        rw [g1, g2] at HB1
        rw [g3, g4] at HB2
        rw [g3, g5] at HCX
        clear g1 g2 g3 g4 g5 g6 HL
        obtain ⟨⟨p0, p1, p2, p3⟩, _⟩ := blk4 HQ.out
        go_wp2_with fail
        refine (HB1.out _ RX.out).mono ?_; rintro e wn ⟨rfl, hb⟩
        have RL' := Lib.hid (rdNL RL.out hb)
        have RX' := Lib.hid (rdNL RX.out hb)
        clear RL; have RL := RL'; clear RL'
        clear RX; have RX := RX'; clear RX'
        have HQ' := Lib.hid (blkN HQ.out hb); clear HQ; have HQ := HQ'; clear HQ'
        have HB' := Lib.hid (HB.out.trans (hb.mono HB.out.size)); clear HB; have HB := HB'; clear HB'
        clear hb p0 p1 p2 p3 HB1
        obtain ⟨⟨p0, p1, p2, p3⟩, _⟩ := blk4 HQ.out
        go_wp2_with fail
        refine (HB2.out _ RX.out).mono ?_; rintro e wn ⟨rfl, hb⟩
        have RL' := Lib.hid (rdNL RL.out hb)
        have RX' := Lib.hid (rdNL RX.out hb)
        clear RL; have RL := RL'; clear RL'
        clear RX; have RX := RX'; clear RX'
        have HQ' := Lib.hid (blkN HQ.out hb); clear HQ; have HQ := HQ'; clear HQ'
        have HB' := Lib.hid (HB.out.trans (hb.mono HB.out.size)); clear HB; have HB := HB'; clear HB'
        clear hb p0 p1 p2 p3 HB2
        obtain ⟨⟨p0, p1, p2, p3⟩, _⟩ := blk4 HQ.out
        go_wp2_with fail
        refine (HCX.out _ RX.out).mono ?_; rintro e wn ⟨v20, rfl, ho, hb⟩
        have RN0 := Lib.hid (Rd.of_own ho)
        have RL' := Lib.hid (rdNL RL.out hb)
        have RX' := Lib.hid (rdNL RX.out hb)
        clear RL; have RL := RL'; clear RL'
        clear RX; have RX := RX'; clear RX'
        have HQ' := Lib.hid (blkN HQ.out hb); clear HQ; have HQ := HQ'; clear HQ'
        have HB' := Lib.hid (HB.out.trans (hb.mono HB.out.size)); clear HB; have HB := HB'; clear HB'
        have RN := RN0; clear RN0
        obtain ⟨A20, c20, rfl⟩ := sl_of_ownL ho
        clear ho hb p0 p1 p2 p3 HCX
        clear RX
        obtain ⟨⟨p0, p1, p2, p3⟩, _⟩ := blk4 HQ.out
        go_wp2_with fail
        refine (HSR.out _ _ _ xs RN.out RL.out hm3).mono ?_; rintro e wn ⟨rfl, n9, hw⟩
        have hb := below_eqL hw
        clear hw
        have RL' := Lib.hid (rdNL RL.out hb)
        have RN' := Lib.hid (rdNL RN.out hb)
        clear RL; have RL := RL'; clear RL'
        clear RN; have RN := RN'; clear RN'
        have HQ' := Lib.hid (blkN HQ.out hb); clear HQ; have HQ := HQ'; clear HQ'
        have HB' := Lib.hid (HB.out.trans (hb.mono HB.out.size)); clear HB; have HB := HB'; clear HB'
        clear hb
        go_wp2_with fail
        go_ret
        exact ⟨rfl, HB.out⟩
      · have hc1' : (C1 == 0) = false := by rw [beq_eq_false_iff_ne]; exact hc1
        clear hc1 HL
        go_wp2_with fail
        go_ret
        exact ⟨rfl, HB.out⟩
  · have htx' : (TX.toList == []) = false := by rw [beq_eq_false_iff_ne]; intro h; refine htx (ba_inj ?_); rw [h, ByteArray.toList_eq]
    obtain ⟨hr1, hr2⟩ := Hbk.out htx
    have hr3 := hr1.symm
    clear hr1
    subst hr3
    subst hr2
    clear htx Hbk
    go_wp2_with fail
    refine (HSR.out _ _ _ ts RK.out RT.out hm11).mono ?_; rintro e wn ⟨rfl, n4, hw⟩
    have hb := below_eqL hw
    clear hw
    have RL' := Lib.hid (rdNL RL.out hb)
    have RX' := Lib.hid (rdNL RX.out hb)
    have RY' := Lib.hid (rdNL RY.out hb)
    have RZ' := Lib.hid (rdNL RZ.out hb)
    have RT' := Lib.hid (rdNL RT.out hb)
    have RK' := Lib.hid (rdNL RK.out hb)
    have RU' := Lib.hid (rdNL RU.out hb)
    have RV' := Lib.hid (rdNL RV.out hb)
    have RA' := Lib.hid (rdNL RA.out hb)
    have RB2' := Lib.hid (rdNL RB2.out hb)
    clear RL; have RL := RL'; clear RL'
    clear RX; have RX := RX'; clear RX'
    clear RY; have RY := RY'; clear RY'
    clear RZ; have RZ := RZ'; clear RZ'
    clear RT; have RT := RT'; clear RT'
    clear RK; have RK := RK'; clear RK'
    clear RU; have RU := RU'; clear RU'
    clear RV; have RV := RV'; clear RV'
    clear RA; have RA := RA'; clear RA'
    clear RB2; have RB2 := RB2'; clear RB2'
    have HQ' := Lib.hid (blkN HQ.out hb); clear HQ; have HQ := HQ'; clear HQ'
    have HB' := Lib.hid (HB.out.trans (hb.mono HB.out.size)); clear HB; have HB := HB'; clear HB'
    clear hb
    clear RT
    clear RK
    go_wp2_with fail
    refine (HSR.out _ _ _ UL RU.out RV.out hzl1).mono ?_; rintro e wn ⟨rfl, n5, hw⟩
    have hb := below_eqL hw
    clear hw
    have RL' := Lib.hid (rdNL RL.out hb)
    have RX' := Lib.hid (rdNL RX.out hb)
    have RY' := Lib.hid (rdNL RY.out hb)
    have RZ' := Lib.hid (rdNL RZ.out hb)
    have RU' := Lib.hid (rdNL RU.out hb)
    have RV' := Lib.hid (rdNL RV.out hb)
    have RA' := Lib.hid (rdNL RA.out hb)
    have RB2' := Lib.hid (rdNL RB2.out hb)
    clear RL; have RL := RL'; clear RL'
    clear RX; have RX := RX'; clear RX'
    clear RY; have RY := RY'; clear RY'
    clear RZ; have RZ := RZ'; clear RZ'
    clear RU; have RU := RU'; clear RU'
    clear RV; have RV := RV'; clear RV'
    clear RA; have RA := RA'; clear RA'
    clear RB2; have RB2 := RB2'; clear RB2'
    have HQ' := Lib.hid (blkN HQ.out hb); clear HQ; have HQ := HQ'; clear HQ'
    have HB' := Lib.hid (HB.out.trans (hb.mono HB.out.size)); clear HB; have HB := HB'; clear HB'
    clear hb
    clear RU
    clear RV
    go_wp2_with fail
    refine (SameLI_any _ _ _ _ l1 l2 _ RA.out RB2.out (by omega)).mono ?_; rintro e wn ⟨rfl, n6, hw⟩
    have hb := below_eqL hw
    clear hw
    have RL' := Lib.hid (rdNL RL.out hb)
    have RX' := Lib.hid (rdNL RX.out hb)
    have RY' := Lib.hid (rdNL RY.out hb)
    have RZ' := Lib.hid (rdNL RZ.out hb)
    have RA' := Lib.hid (rdNL RA.out hb)
    have RB2' := Lib.hid (rdNL RB2.out hb)
    clear RL; have RL := RL'; clear RL'
    clear RX; have RX := RX'; clear RX'
    clear RY; have RY := RY'; clear RY'
    clear RZ; have RZ := RZ'; clear RZ'
    clear RA; have RA := RA'; clear RA'
    clear RB2; have RB2 := RB2'; clear RB2'
    have HQ' := Lib.hid (blkN HQ.out hb); clear HQ; have HQ := HQ'; clear HQ'
    have HB' := Lib.hid (HB.out.trans (hb.mono HB.out.size)); clear HB; have HB := HB'; clear HB'
    clear hb
    go_wp2_with fail
    refine (SameLS_any _ _ _ _ l1 l2 _ RA.out RB2.out (by omega)).mono ?_; rintro e wn ⟨rfl, n7, hw⟩
    have hb := below_eqL hw
    clear hw
    have RL' := Lib.hid (rdNL RL.out hb)
    have RX' := Lib.hid (rdNL RX.out hb)
    have RY' := Lib.hid (rdNL RY.out hb)
    have RZ' := Lib.hid (rdNL RZ.out hb)
    have RA' := Lib.hid (rdNL RA.out hb)
    have RB2' := Lib.hid (rdNL RB2.out hb)
    clear RL; have RL := RL'; clear RL'
    clear RX; have RX := RX'; clear RX'
    clear RY; have RY := RY'; clear RY'
    clear RZ; have RZ := RZ'; clear RZ'
    clear RA; have RA := RA'; clear RA'
    clear RB2; have RB2 := RB2'; clear RB2'
    have HQ' := Lib.hid (blkN HQ.out hb); clear HQ; have HQ := HQ'; clear HQ'
    have HB' := Lib.hid (HB.out.trans (hb.mono HB.out.size)); clear HB; have HB := HB'; clear HB'
    clear hb
    clear RA
    clear RB2
    generalize decide (l1 = l2) = D at *
    go_wp2_with fail
    refine (HVI.out _ RL.out).mono ?_; rintro e wn ⟨rfl, hb⟩
    have RL' := Lib.hid (rdNL RL.out hb)
    have RX' := Lib.hid (rdNL RX.out hb)
    have RY' := Lib.hid (rdNL RY.out hb)
    have RZ' := Lib.hid (rdNL RZ.out hb)
    clear RL; have RL := RL'; clear RL'
    clear RX; have RX := RX'; clear RX'
    clear RY; have RY := RY'; clear RY'
    clear RZ; have RZ := RZ'; clear RZ'
    have HQ' := Lib.hid (blkN HQ.out hb); clear HQ; have HQ := HQ'; clear HQ'
    have HB' := Lib.hid (HB.out.trans (hb.mono HB.out.size)); clear HB; have HB := HB'; clear HB'
    clear hb HVI
    go_wp2_with fail
    refine (HVS.out _ RL.out).mono ?_; rintro e wn ⟨rfl, n8, hw⟩
    have hb := below_eqL hw
    clear hw
    have RL' := Lib.hid (rdNL RL.out hb)
    have RX' := Lib.hid (rdNL RX.out hb)
    have RY' := Lib.hid (rdNL RY.out hb)
    have RZ' := Lib.hid (rdNL RZ.out hb)
    clear RL; have RL := RL'; clear RL'
    clear RX; have RX := RX'; clear RX'
    clear RY; have RY := RY'; clear RY'
    clear RZ; have RZ := RZ'; clear RZ'
    have HQ' := Lib.hid (blkN HQ.out hb); clear HQ; have HQ := HQ'; clear HQ'
    have HB' := Lib.hid (HB.out.trans (hb.mono HB.out.size)); clear HB; have HB := HB'; clear HB'
    clear hb
    clear HVS
    by_cases hc2 : C2 = 0
    · subst hc2
      obtain ⟨g1, g2, g3⟩ := HLC.out rfl
      have HBY := Lib.hid (fun wx (hx : RdL wx wx.heap.size (.slice A7 Y.length c7) Y) => BorrowN_any _ _ Y s d wx hx (Nat.le_refl _) hY HsY.out (fun A n c' e => by injection e with _ e2 e3; exact ⟨by have := Hc7.out.1; omega, by have := Hc7.out.2; omega⟩) g1 g2)
      have HVY := Lib.hid (fun wx (hx : RdL wx wx.heap.size (.slice A7 Y.length c7) Y) => ValidLoansI_any _ _ Y wx hx (Nat.le_refl _) hY HsY.out (fun A n c' e => by injection e with _ e2 e3; exact ⟨by have := Hc7.out.1; omega, by have := Hc7.out.2; omega⟩))
      have HVZ := Lib.hid (fun wx (hx : RdL wx wx.heap.size (.slice A9 Z.length c9) Z) => ValidLoansI_any _ _ Z wx hx (Nat.le_refl _) hZ HsZ.out (fun A n c' e => by injection e with _ e2 e3; exact ⟨by have := Hc9.out.1; omega, by have := Hc9.out.2; omega⟩))
      rw [g1] at HVY
      rw [g3] at HVZ
      clear g1 g2 g3 HLC
      go_wp2_with fail
      refine (HBY.out _ RY.out).mono ?_; rintro e wn ⟨rfl, hb⟩
      have RL' := Lib.hid (rdNL RL.out hb)
      have RX' := Lib.hid (rdNL RX.out hb)
      have RY' := Lib.hid (rdNL RY.out hb)
      have RZ' := Lib.hid (rdNL RZ.out hb)
      clear RL; have RL := RL'; clear RL'
      clear RX; have RX := RX'; clear RX'
      clear RY; have RY := RY'; clear RY'
      clear RZ; have RZ := RZ'; clear RZ'
      have HQ' := Lib.hid (blkN HQ.out hb); clear HQ; have HQ := HQ'; clear HQ'
      have HB' := Lib.hid (HB.out.trans (hb.mono HB.out.size)); clear HB; have HB := HB'; clear HB'
      clear hb HBY
      go_wp2_with fail
      refine (HVY.out _ RY.out).mono ?_; rintro e wn ⟨rfl, hb⟩
      have RL' := Lib.hid (rdNL RL.out hb)
      have RX' := Lib.hid (rdNL RX.out hb)
      have RY' := Lib.hid (rdNL RY.out hb)
      have RZ' := Lib.hid (rdNL RZ.out hb)
      clear RL; have RL := RL'; clear RL'
      clear RX; have RX := RX'; clear RX'
      clear RY; have RY := RY'; clear RY'
      clear RZ; have RZ := RZ'; clear RZ'
      have HQ' := Lib.hid (blkN HQ.out hb); clear HQ; have HQ := HQ'; clear HQ'
      have HB' := Lib.hid (HB.out.trans (hb.mono HB.out.size)); clear HB; have HB := HB'; clear HB'
      clear hb HVY
      go_wp2_with fail
      refine (HVZ.out _ RZ.out).mono ?_; rintro e wn ⟨rfl, hb⟩
      have RL' := Lib.hid (rdNL RL.out hb)
      have RX' := Lib.hid (rdNL RX.out hb)
      have RY' := Lib.hid (rdNL RY.out hb)
      have RZ' := Lib.hid (rdNL RZ.out hb)
      clear RL; have RL := RL'; clear RL'
      clear RX; have RX := RX'; clear RX'
      clear RY; have RY := RY'; clear RY'
      clear RZ; have RZ := RZ'; clear RZ'
      have HQ' := Lib.hid (blkN HQ.out hb); clear HQ; have HQ := HQ'; clear HQ'
      have HB' := Lib.hid (HB.out.trans (hb.mono HB.out.size)); clear HB; have HB := HB'; clear HB'
      clear hb HVZ
      clear RY
      clear RZ
      by_cases hc1 : C1 = 0
      · subst hc1
        obtain ⟨⟨g1, g2⟩, ⟨g3, g4, g5⟩, g6⟩ := HL.out rfl
        obtain ⟨bx, ox, rfl⟩ := rdL_some RX.out g6
        have HB1 := Lib.hid (fun wx hx => BorrowI_any wx.heap.size bx ox c4 X xa xf wx hx (Nat.le_refl _) hX HsX.out Hc4.out.1 Hc4.out.2)
        have HB2 := Lib.hid (fun wx hx => BorrowI_any wx.heap.size bx ox c4 X xa xt wx hx (Nat.le_refl _) hX HsX.out Hc4.out.1 Hc4.out.2)
        have HCX := Lib.hid (fun wx hx => CancelI_any wx.heap.size bx ox c4 X xa xt wx hx (Nat.le_refl _) hX HsX.out Hc4.out.1 Hc4.out.2)
        unfold RetBw at HB1 HB2
        unfold RetLn at HCX
        rw [g1, g2] at HB1
        rw [g3, g4] at HB2
        rw [g3, g5] at HCX
        clear g1 g2 g3 g4 g5 g6 HL
        obtain ⟨⟨p0, p1, p2, p3⟩, _⟩ := blk4 HQ.out
        go_wp2_with fail
        refine (HB1.out _ RX.out).mono ?_; rintro e wn ⟨rfl, hb⟩
        have RL' := Lib.hid (rdNL RL.out hb)
        have RX' := Lib.hid (rdNL RX.out hb)
        clear RL; have RL := RL'; clear RL'
        clear RX; have RX := RX'; clear RX'
        have HQ' := Lib.hid (blkN HQ.out hb); clear HQ; have HQ := HQ'; clear HQ'
        have HB' := Lib.hid (HB.out.trans (hb.mono HB.out.size)); clear HB; have HB := HB'; clear HB'
        clear hb p0 p1 p2 p3 HB1
        obtain ⟨⟨p0, p1, p2, p3⟩, _⟩ := blk4 HQ.out
        go_wp2_with fail
        refine (HB2.out _ RX.out).mono ?_; rintro e wn ⟨rfl, hb⟩
        have RL' := Lib.hid (rdNL RL.out hb)
        have RX' := Lib.hid (rdNL RX.out hb)
        clear RL; have RL := RL'; clear RL'
        clear RX; have RX := RX'; clear RX'
        have HQ' := Lib.hid (blkN HQ.out hb); clear HQ; have HQ := HQ'; clear HQ'
        have HB' := Lib.hid (HB.out.trans (hb.mono HB.out.size)); clear HB; have HB := HB'; clear HB'
        clear hb p0 p1 p2 p3 HB2
        obtain ⟨⟨p0, p1, p2, p3⟩, _⟩ := blk4 HQ.out
        go_wp2_with fail
        refine (HCX.out _ RX.out).mono ?_; rintro e wn ⟨v20, rfl, ho, hb⟩
        have RN0 := Lib.hid (Rd.of_own ho)
        have RL' := Lib.hid (rdNL RL.out hb)
        have RX' := Lib.hid (rdNL RX.out hb)
        clear RL; have RL := RL'; clear RL'
        clear RX; have RX := RX'; clear RX'
        have HQ' := Lib.hid (blkN HQ.out hb); clear HQ; have HQ := HQ'; clear HQ'
        have HB' := Lib.hid (HB.out.trans (hb.mono HB.out.size)); clear HB; have HB := HB'; clear HB'
        have RN := RN0; clear RN0
        obtain ⟨A20, c20, rfl⟩ := sl_of_ownL ho
        clear ho hb p0 p1 p2 p3 HCX
        clear RX
        obtain ⟨⟨p0, p1, p2, p3⟩, _⟩ := blk4 HQ.out
        go_wp2_with fail
        refine (HSR.out _ _ _ xs RN.out RL.out hm3).mono ?_; rintro e wn ⟨rfl, n9, hw⟩
        have hb := below_eqL hw
        clear hw
        have RL' := Lib.hid (rdNL RL.out hb)
        have RN' := Lib.hid (rdNL RN.out hb)
        clear RL; have RL := RL'; clear RL'
        clear RN; have RN := RN'; clear RN'
        have HQ' := Lib.hid (blkN HQ.out hb); clear HQ; have HQ := HQ'; clear HQ'
        have HB' := Lib.hid (HB.out.trans (hb.mono HB.out.size)); clear HB; have HB := HB'; clear HB'
        clear hb
        go_wp2_with fail
        go_ret
        exact ⟨rfl, HB.out⟩
      · have hc1' : (C1 == 0) = false := by rw [beq_eq_false_iff_ne]; exact hc1
        clear hc1 HL
        go_wp2_with fail
        go_ret
        exact ⟨rfl, HB.out⟩
    · have hc2' : (C2 == 0) = false := by rw [beq_eq_false_iff_ne]; exact hc2
      clear hc2 HLC
      clear RY
      clear RZ
      by_cases hc1 : C1 = 0
      · subst hc1
        obtain ⟨⟨g1, g2⟩, ⟨g3, g4, g5⟩, g6⟩ := HL.out rfl
        obtain ⟨bx, ox, rfl⟩ := rdL_some RX.out g6
        have HB1 := Lib.hid (fun wx hx => BorrowI_any wx.heap.size bx ox c4 X xa xf wx hx (Nat.le_refl _) hX HsX.out Hc4.out.1 Hc4.out.2)
        have HB2 := Lib.hid (fun wx hx => BorrowI_any wx.heap.size bx ox c4 X xa xt wx hx (Nat.le_refl _) hX HsX.out Hc4.out.1 Hc4.out.2)
        have HCX := Lib.hid (fun wx hx => CancelI_any wx.heap.size bx ox c4 X xa xt wx hx (Nat.le_refl _) hX HsX.out Hc4.out.1 Hc4.out.2)
        unfold RetBw at HB1 HB2
        unfold RetLn at HCX
        rw [g1, g2] at HB1
        rw [g3, g4] at HB2
        rw [g3, g5] at HCX
        clear g1 g2 g3 g4 g5 g6 HL
        obtain ⟨⟨p0, p1, p2, p3⟩, _⟩ := blk4 HQ.out
        go_wp2_with fail
        refine (HB1.out _ RX.out).mono ?_; rintro e wn ⟨rfl, hb⟩
        have RL' := Lib.hid (rdNL RL.out hb)
        have RX' := Lib.hid (rdNL RX.out hb)
        clear RL; have RL := RL'; clear RL'
        clear RX; have RX := RX'; clear RX'
        have HQ' := Lib.hid (blkN HQ.out hb); clear HQ; have HQ := HQ'; clear HQ'
        have HB' := Lib.hid (HB.out.trans (hb.mono HB.out.size)); clear HB; have HB := HB'; clear HB'
        clear hb p0 p1 p2 p3 HB1
        obtain ⟨⟨p0, p1, p2, p3⟩, _⟩ := blk4 HQ.out
        go_wp2_with fail
        refine (HB2.out _ RX.out).mono ?_; rintro e wn ⟨rfl, hb⟩
        have RL' := Lib.hid (rdNL RL.out hb)
        have RX' := Lib.hid (rdNL RX.out hb)
        clear RL; have RL := RL'; clear RL'
        clear RX; have RX := RX'; clear RX'
        have HQ' := Lib.hid (blkN HQ.out hb); clear HQ; have HQ := HQ'; clear HQ'
        have HB' := Lib.hid (HB.out.trans (hb.mono HB.out.size)); clear HB; have HB := HB'; clear HB'
        clear hb p0 p1 p2 p3 HB2
        obtain ⟨⟨p0, p1, p2, p3⟩, _⟩ := blk4 HQ.out
        go_wp2_with fail
        refine (HCX.out _ RX.out).mono ?_; rintro e wn ⟨v20, rfl, ho, hb⟩
        have RN0 := Lib.hid (Rd.of_own ho)
        have RL' := Lib.hid (rdNL RL.out hb)
        have RX' := Lib.hid (rdNL RX.out hb)
        clear RL; have RL := RL'; clear RL'
        clear RX; have RX := RX'; clear RX'
        have HQ' := Lib.hid (blkN HQ.out hb); clear HQ; have HQ := HQ'; clear HQ'
        have HB' := Lib.hid (HB.out.trans (hb.mono HB.out.size)); clear HB; have HB := HB'; clear HB'
        have RN := RN0; clear RN0
        obtain ⟨A20, c20, rfl⟩ := sl_of_ownL ho
        clear ho hb p0 p1 p2 p3 HCX
        clear RX
        obtain ⟨⟨p0, p1, p2, p3⟩, _⟩ := blk4 HQ.out
        go_wp2_with fail
        refine (HSR.out _ _ _ xs RN.out RL.out hm3).mono ?_; rintro e wn ⟨rfl, n9, hw⟩
        have hb := below_eqL hw
        clear hw
        have RL' := Lib.hid (rdNL RL.out hb)
        have RN' := Lib.hid (rdNL RN.out hb)
        clear RL; have RL := RL'; clear RL'
        clear RN; have RN := RN'; clear RN'
        have HQ' := Lib.hid (blkN HQ.out hb); clear HQ; have HQ := HQ'; clear HQ'
        have HB' := Lib.hid (HB.out.trans (hb.mono HB.out.size)); clear HB; have HB := HB'; clear HB'
        clear hb
        go_wp2_with fail
        go_ret
        exact ⟨rfl, HB.out⟩
      · have hc1' : (C1 == 0) = false := by rw [beq_eq_false_iff_ne]; exact hc1
        clear hc1 HL
        go_wp2_with fail
        go_ret
        exact ⟨rfl, HB.out⟩
end Go.Proofs.YtmheijnckmlbnaaDoor
