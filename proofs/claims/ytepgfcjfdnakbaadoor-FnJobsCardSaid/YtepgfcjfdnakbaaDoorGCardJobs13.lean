/- Merged texts: Jc14. -/
import Derived.Test.YtepgfcjfdnakbaaDoorGCardJobs11
import Derived.Test.YtepgfcjfdnakbaaDoorGCardJobs12
import Derived.Test.YtepgfcjfdnakbaaDoorGCardJobs2
/- The law FnJobs: the walk (gen_jc14.py). -/
namespace Go.Proofs.YtepgfcjfdnakbaaDoor
open Go.RowKit Go.Joins

theorem rd_natJ {w : World} {B : Nat} {v : Value} {l : List Nat} (h : Rd w B v l.length 1 (natV l)) : Rd w B v l.length 1 (tab l.length (fun i => (l.getD i 0 : Int))) := by rw [← natV_tab]; exact h
theorem undef_noJ {b : Bool} (h : some undef = some (Value.bool b)) : False := by
  injection h with h
  cases h
theorem jbn_le (xs : List Jb) : jbn xs ≤ xs.length := by unfold jbn; split <;> omega
theorem crC_len (xs : List Jb) : (crC xs).length ≤ xs.length := by
  unfold crC
  split
  · exact crL_len xs _
  · exact Nat.zero_le _
theorem bfC_len (xs : List Jb) (k : Int) : (bfC xs k).length ≤ xs.length := by
  unfold bfC
  split
  · rename_i h
    have h2 : k.toNat ≤ xs.length := by
      unfold cdJ at h
      split at h
      · split at h
        · rename_i h3
          have := inB_iff.1 h3
          omega
        · omega
      · omega
    exact Nat.le_trans (baL_len _ _) h2
  · exact Nat.zero_le _
theorem txJ_small {xs : List Jb} (hz : ∀ x ∈ xs, x.nm.size ≤ 16 ∧ x.needs.length ≤ 62) : (txJ xs).size ≤ 100000 := by
  unfold txJ
  cases h : okJ xs with
  | false => show 0 ≤ 100000; omega
  | true =>
    have hk := (okJ_ok h).good
    have := textJ_small hk hz xs.length (Nat.le_refl _)
    have h3 := hk.len
    show (textJ xs xs.length).size ≤ 100000
    omega
/-- what the law asks of days -/
theorem jobs_law {xs : List Jb} (h : dnC xs = 0) : jbn xs = xs.length ∧ crC xs = crL xs xs.length ∧ (∀ k, k < xs.length → 0 ≤ erl xs k ∧ erl xs k ≤ late xs k ∧ late xs k + (jg xs k).days ≤ dnV xs ∧ late xs k ≤ 400 ∧ 1 ≤ (jg xs k).days ∧ (jg xs k).days ≤ 60) ∧
    (∀ k, k < xs.length → ∀ i (hi : i < (jg xs k).needs.length), ∃ p : Nat, p < k ∧ (jg xs k).needs[i] = (p : Int) ∧ erl xs p + (jg xs p).days ≤ erl xs k ∧ late xs p + (jg xs p).days ≤ late xs k) ∧ (0 < xs.length → 0 < (crL xs xs.length).length) := by
  have hok : okJ xs = true := by
    unfold dnC at h
    cases hv : okJ xs with
    | true => rfl
    | false => rw [hv, if_neg (by simp)] at h; omega
  have hk := okJ_ok hok
  refine ⟨by unfold jbn; rw [hok, if_pos rfl], by unfold crC; rw [hok, if_pos rfl], fun k hk2 => ?_, fun k hk2 i hi => ?_, crL_pos hk⟩
  · have h1 := erl_bd hk k hk2
    have h2 := late_ge hk hk2
    have h3 := late_all hk hk2
    have h4 := late_bd hk k
    have h5 := hk.days k hk2
    have h6 : dnV xs = allD xs xs.length := by unfold dnV; rw [hok, if_pos rfl]
    rw [h6]
    omega
  · obtain ⟨p, hp, hge, hne⟩ := nd_at hk hk2 hi
    have h1 := erl_need hk hk2 hi
    have h2 := late_need hk hk2 hi
    rw [hge, Int.toNat_natCast] at h1 h2
    exact ⟨p, hp, hne, h1, h2⟩
set_option maxRecDepth 100000 in
set_option maxHeartbeats 1600000 in
theorem ValidJ2_any (B : Nat) (v : Value) (xs : List Jb) (w : World) (h : RdJ w B v xs) (hB : B ≤ w.heap.size) (hn : xs.length ≤ 100000) (hz : szJ xs) :
    Calls Tryd.prog 50 #[v] w fun e w' => e = .returned (.bool (okJ xs)) ∧ Below w.heap.size w w' := by
  have HV := Lib.hid (OkJS_any B v xs w h hB hn hz)
  obtain ⟨A, c, rfl⟩ := h.slice
  clear h
  generalize okJ xs = bv at *
  go_enter Tryd.func50, Tryd.ntmps50
  go_wp2_with fail
  refine HV.out.mono ?_; rintro e w1 ⟨rfl, hb1⟩
  go_wp2_with fail
  go_ret
  exact ⟨rfl, hb1⟩
set_option maxRecDepth 100000 in
set_option maxHeartbeats 25600000 in
theorem walkFnJobs {W : World} (v : Value) (bs : List UInt8) (h : Rd W W.heap.size v bs.length 1 (bs.map byV)) (_hl : bs.length ≤ maxLen) (ht : Tab W) :
    Calls Tryd.prog 4 #[v] W fun e w' => e = .returned (.bool true) ∧ Below W.heap.size W w' := by
  have HB := Lib.hid (Below.refl W.heap.size W)
  have HC := Lib.hid h
  have HTb := Lib.hid (fun w2 (hb : Below W.heap.size W w2) => ht.below hb)
  have HG := Lib.hid (f6big_c _ _ v _ W h)
  obtain ⟨_, A0, c0, rfl, _⟩ := h
  clear ht
  by_cases hbig : 4096 < bs.length
  · rw [decide_eq_true hbig] at HG
    clear hbig
    go_enter Tryd.func4, Tryd.ntmps4
    go_wp2_with fail
    refine HG.out.mono ?_; rintro e w1 ⟨rfl, rfl⟩
    go_wp2_with fail
    go_ret
    exact ⟨rfl, HB.out⟩
  rw [decide_eq_false hbig] at HG
  clear hbig
  go_enter Tryd.func4, Tryd.ntmps4
  go_wp2_with fail
  refine HG.out.mono ?_; rintro e w1 ⟨rfl, rfl⟩
  clear HG
  go_wp2_with fail
  refine (drawES_any _ _ bs _ (HC.out.below HB.out) HB.out.size).mono ?_; rintro e wn ⟨v3, xs3, rfl, hN, -⟩
  have HB' := Lib.hid (HB.out.trans (hN.bel.mono HB.out.size)); clear HB; have HB := HB'; clear HB'
  have J3 := Lib.hid (hN.rd)
  obtain ⟨A3, c3, rfl⟩ := J3.out.slice
  have hl3 := hN.len
  have Hs3 := Lib.hid hN.sz
  clear hN
  have HEI := Lib.hid (fun wx hx => EarI_any wx.heap.size (.slice A3 xs3.length c3) xs3 wx hx (Nat.le_refl _) (by omega) Hs3.out)
  have HES := Lib.hid (fun wx hx => EarS_any wx.heap.size (.slice A3 xs3.length c3) xs3 wx hx (Nat.le_refl _) (by omega) Hs3.out)
  have HLI := Lib.hid (fun wx hx => LatI_any wx.heap.size (.slice A3 xs3.length c3) xs3 wx hx (Nat.le_refl _) (by omega) Hs3.out)
  have HLS := Lib.hid (fun wx hx => LatS_any wx.heap.size (.slice A3 xs3.length c3) xs3 wx hx (Nat.le_refl _) (by omega) Hs3.out)
  have HDI := Lib.hid (fun wx hx => DaysI_any wx.heap.size (.slice A3 xs3.length c3) xs3 wx hx (Nat.le_refl _) (by omega) Hs3.out)
  have HDS := Lib.hid (fun wx hx => DaysS_any wx.heap.size (.slice A3 xs3.length c3) xs3 wx hx (Nat.le_refl _) (by omega) Hs3.out)
  have HRI := Lib.hid (fun wx hx => CritI_any wx.heap.size (.slice A3 xs3.length c3) xs3 wx hx (Nat.le_refl _) (by omega) Hs3.out)
  have HRS := Lib.hid (fun wx hx => CritS_any wx.heap.size (.slice A3 xs3.length c3) xs3 wx hx (Nat.le_refl _) (by omega) Hs3.out)
  have HVI := Lib.hid (fun wx hx => ValidJI_any wx.heap.size (.slice A3 xs3.length c3) xs3 wx hx (Nat.le_refl _) (by omega) Hs3.out)
  have HVS := Lib.hid (fun wx hx => ValidJ2_any wx.heap.size (.slice A3 xs3.length c3) xs3 wx hx (Nat.le_refl _) (by omega) Hs3.out)
  have HLaw := Lib.hid (@jobs_law xs3)
  have hl4 := jbn_le xs3
  have hl16 := crC_len xs3
  unfold RetE2 at HEI HES HLI HLS
  unfold RetNc at HRI HRS
  generalize jbn xs3 = N4 at *
  generalize dnV xs3 = D12 at *
  generalize dnC xs3 = C5 at *
  generalize crC xs3 = L16 at *
  generalize okJ xs3 = bv at *
  go_wp2_with fail
  refine (HEI.out _ J3.out).mono ?_; rintro e wn ⟨v4, rfl, ho, hb⟩
  have R40 := Lib.hid (Rd.of_own ho)
  have J3' := Lib.hid (J3.out.next hb); clear J3; have J3 := J3'; clear J3'
  have HB' := Lib.hid (HB.out.trans (hb.mono HB.out.size)); clear HB; have HB := HB'; clear HB'
  have R4 := R40; clear R40
  obtain ⟨A4, c4, rfl⟩ := own_sl ho
  clear hb ho HEI
  go_wp2_with fail
  refine (HES.out _ J3.out).mono ?_; rintro e wn ⟨v6, rfl, ho, hb⟩
  have R60 := Lib.hid (Rd.of_own ho)
  have J3' := Lib.hid (J3.out.next hb); clear J3; have J3 := J3'; clear J3'
  have R4' := Lib.hid (rdN R4.out hb)
  clear R4; have R4 := R4'; clear R4'
  have HB' := Lib.hid (HB.out.trans (hb.mono HB.out.size)); clear HB; have HB := HB'; clear HB'
  have R6 := R60; clear R60
  obtain ⟨A6, c6, rfl⟩ := own_sl ho
  clear hb ho HES
  go_wp2_with fail
  refine (HLI.out _ J3.out).mono ?_; rintro e wn ⟨v8, rfl, ho, hb⟩
  have R80 := Lib.hid (Rd.of_own ho)
  have J3' := Lib.hid (J3.out.next hb); clear J3; have J3 := J3'; clear J3'
  have R4' := Lib.hid (rdN R4.out hb)
  have R6' := Lib.hid (rdN R6.out hb)
  clear R4; have R4 := R4'; clear R4'
  clear R6; have R6 := R6'; clear R6'
  have HB' := Lib.hid (HB.out.trans (hb.mono HB.out.size)); clear HB; have HB := HB'; clear HB'
  have R8 := R80; clear R80
  obtain ⟨A8, c8, rfl⟩ := own_sl ho
  clear hb ho HLI
  go_wp2_with fail
  refine (HLS.out _ J3.out).mono ?_; rintro e wn ⟨v10, rfl, ho, hb⟩
  have R100 := Lib.hid (Rd.of_own ho)
  have J3' := Lib.hid (J3.out.next hb); clear J3; have J3 := J3'; clear J3'
  have R4' := Lib.hid (rdN R4.out hb)
  have R6' := Lib.hid (rdN R6.out hb)
  have R8' := Lib.hid (rdN R8.out hb)
  clear R4; have R4 := R4'; clear R4'
  clear R6; have R6 := R6'; clear R6'
  clear R8; have R8 := R8'; clear R8'
  have HB' := Lib.hid (HB.out.trans (hb.mono HB.out.size)); clear HB; have HB := HB'; clear HB'
  have R10 := R100; clear R100
  obtain ⟨A10, c10, rfl⟩ := own_sl ho
  clear hb ho HLS
  go_wp2_with fail
  refine (HDI.out _ J3.out).mono ?_; rintro e wn ⟨rfl, hb⟩
  have J3' := Lib.hid (J3.out.next hb); clear J3; have J3 := J3'; clear J3'
  have R4' := Lib.hid (rdN R4.out hb)
  have R6' := Lib.hid (rdN R6.out hb)
  have R8' := Lib.hid (rdN R8.out hb)
  have R10' := Lib.hid (rdN R10.out hb)
  clear R4; have R4 := R4'; clear R4'
  clear R6; have R6 := R6'; clear R6'
  clear R8; have R8 := R8'; clear R8'
  clear R10; have R10 := R10'; clear R10'
  have HB' := Lib.hid (HB.out.trans (hb.mono HB.out.size)); clear HB; have HB := HB'; clear HB'
  clear hb HDI
  go_wp2_with fail
  refine (HDS.out _ J3.out).mono ?_; rintro e wn ⟨rfl, hb⟩
  have J3' := Lib.hid (J3.out.next hb); clear J3; have J3 := J3'; clear J3'
  have R4' := Lib.hid (rdN R4.out hb)
  have R6' := Lib.hid (rdN R6.out hb)
  have R8' := Lib.hid (rdN R8.out hb)
  have R10' := Lib.hid (rdN R10.out hb)
  clear R4; have R4 := R4'; clear R4'
  clear R6; have R6 := R6'; clear R6'
  clear R8; have R8 := R8'; clear R8'
  clear R10; have R10 := R10'; clear R10'
  have HB' := Lib.hid (HB.out.trans (hb.mono HB.out.size)); clear HB; have HB := HB'; clear HB'
  clear hb HDS
  go_wp2_with fail
  refine (HRI.out _ J3.out).mono ?_; rintro e wn ⟨v16, rfl, ho, hb⟩
  have R160 := Lib.hid (Rd.of_own ho)
  have J3' := Lib.hid (J3.out.next hb); clear J3; have J3 := J3'; clear J3'
  have R4' := Lib.hid (rdN R4.out hb)
  have R6' := Lib.hid (rdN R6.out hb)
  have R8' := Lib.hid (rdN R8.out hb)
  have R10' := Lib.hid (rdN R10.out hb)
  clear R4; have R4 := R4'; clear R4'
  clear R6; have R6 := R6'; clear R6'
  clear R8; have R8 := R8'; clear R8'
  clear R10; have R10 := R10'; clear R10'
  have HB' := Lib.hid (HB.out.trans (hb.mono HB.out.size)); clear HB; have HB := HB'; clear HB'
  have R16 := R160; clear R160
  obtain ⟨A16, c16, rfl⟩ := own_sl ho
  clear hb ho HRI
  go_wp2_with fail
  refine (HRS.out _ J3.out).mono ?_; rintro e wn ⟨v18, rfl, ho, hb⟩
  have R180 := Lib.hid (Rd.of_own ho)
  have J3' := Lib.hid (J3.out.next hb); clear J3; have J3 := J3'; clear J3'
  have R4' := Lib.hid (rdN R4.out hb)
  have R6' := Lib.hid (rdN R6.out hb)
  have R8' := Lib.hid (rdN R8.out hb)
  have R10' := Lib.hid (rdN R10.out hb)
  have R16' := Lib.hid (rdN R16.out hb)
  clear R4; have R4 := R4'; clear R4'
  clear R6; have R6 := R6'; clear R6'
  clear R8; have R8 := R8'; clear R8'
  clear R10; have R10 := R10'; clear R10'
  clear R16; have R16 := R16'; clear R16'
  have HB' := Lib.hid (HB.out.trans (hb.mono HB.out.size)); clear HB; have HB := HB'; clear HB'
  have R18 := R180; clear R180
  obtain ⟨A18, c18, rfl⟩ := own_sl ho
  clear hb ho HRS
  go_wp2_with fail
  refine (drawJB_any _ _ bs _ (HC.out.below HB.out) HB.out.size).mono ?_; rintro e wn ⟨v20, xs20, z21, rfl, hN⟩
  have J3' := Lib.hid (J3.out.next hN.bel); clear J3; have J3 := J3'; clear J3'
  have R4' := Lib.hid (rdN R4.out hN.bel)
  have R6' := Lib.hid (rdN R6.out hN.bel)
  have R8' := Lib.hid (rdN R8.out hN.bel)
  have R10' := Lib.hid (rdN R10.out hN.bel)
  have R16' := Lib.hid (rdN R16.out hN.bel)
  have R18' := Lib.hid (rdN R18.out hN.bel)
  clear R4; have R4 := R4'; clear R4'
  clear R6; have R6 := R6'; clear R6'
  clear R8; have R8 := R8'; clear R8'
  clear R10; have R10 := R10'; clear R10'
  clear R16; have R16 := R16'; clear R16'
  clear R18; have R18 := R18'; clear R18'
  have HB' := Lib.hid (HB.out.trans (hN.bel.mono HB.out.size)); clear HB; have HB := HB'; clear HB'
  have J20 := Lib.hid (hN.rd)
  obtain ⟨A20, c20, rfl⟩ := J20.out.slice
  have hl20 := hN.len
  have Hs20 := Lib.hid hN.sz
  clear hN
  have HBI := Lib.hid (fun wx hx => BefI_any wx.heap.size (.slice A20 xs20.length c20) xs20 z21 wx hx (Nat.le_refl _) (by omega) Hs20.out)
  have HBS := Lib.hid (fun wx hx => BefS_any wx.heap.size (.slice A20 xs20.length c20) xs20 z21 wx hx (Nat.le_refl _) (by omega) Hs20.out)
  have hl22 := bfC_len xs20 z21
  unfold RetNc at HBI HBS
  generalize bfC xs20 z21 = L22 at *
  generalize cdJ xs20 z21 = C23 at *
  go_wp2_with fail
  refine (HBI.out _ J20.out).mono ?_; rintro e wn ⟨v22, rfl, ho, hb⟩
  have R220 := Lib.hid (Rd.of_own ho)
  have J3' := Lib.hid (J3.out.next hb); clear J3; have J3 := J3'; clear J3'
  have J20' := Lib.hid (J20.out.next hb); clear J20; have J20 := J20'; clear J20'
  have R4' := Lib.hid (rdN R4.out hb)
  have R6' := Lib.hid (rdN R6.out hb)
  have R8' := Lib.hid (rdN R8.out hb)
  have R10' := Lib.hid (rdN R10.out hb)
  have R16' := Lib.hid (rdN R16.out hb)
  have R18' := Lib.hid (rdN R18.out hb)
  clear R4; have R4 := R4'; clear R4'
  clear R6; have R6 := R6'; clear R6'
  clear R8; have R8 := R8'; clear R8'
  clear R10; have R10 := R10'; clear R10'
  clear R16; have R16 := R16'; clear R16'
  clear R18; have R18 := R18'; clear R18'
  have HB' := Lib.hid (HB.out.trans (hb.mono HB.out.size)); clear HB; have HB := HB'; clear HB'
  have R22 := R220; clear R220
  obtain ⟨A22, c22, rfl⟩ := own_sl ho
  clear hb ho HBI
  go_wp2_with fail
  refine (HBS.out _ J20.out).mono ?_; rintro e wn ⟨v24, rfl, ho, hb⟩
  have R240 := Lib.hid (Rd.of_own ho)
  have J3' := Lib.hid (J3.out.next hb); clear J3; have J3 := J3'; clear J3'
  have J20' := Lib.hid (J20.out.next hb); clear J20; have J20 := J20'; clear J20'
  have R4' := Lib.hid (rdN R4.out hb)
  have R6' := Lib.hid (rdN R6.out hb)
  have R8' := Lib.hid (rdN R8.out hb)
  have R10' := Lib.hid (rdN R10.out hb)
  have R16' := Lib.hid (rdN R16.out hb)
  have R18' := Lib.hid (rdN R18.out hb)
  have R22' := Lib.hid (rdN R22.out hb)
  clear R4; have R4 := R4'; clear R4'
  clear R6; have R6 := R6'; clear R6'
  clear R8; have R8 := R8'; clear R8'
  clear R10; have R10 := R10'; clear R10'
  clear R16; have R16 := R16'; clear R16'
  clear R18; have R18 := R18'; clear R18'
  clear R22; have R22 := R22'; clear R22'
  have HB' := Lib.hid (HB.out.trans (hb.mono HB.out.size)); clear HB; have HB := HB'; clear HB'
  have R24 := R240; clear R240
  obtain ⟨A24, c24, rfl⟩ := own_sl ho
  clear hb ho HBS
  clear J20
  clear Hs20
  go_wp2_with fail
  refine (drawJT_any _ _ bs _ (HC.out.below HB.out) HB.out.size).mono ?_; rintro e wn ⟨v26, xs26, rfl, hN, hsm⟩
  have J3' := Lib.hid (J3.out.next hN.bel); clear J3; have J3 := J3'; clear J3'
  have R4' := Lib.hid (rdN R4.out hN.bel)
  have R6' := Lib.hid (rdN R6.out hN.bel)
  have R8' := Lib.hid (rdN R8.out hN.bel)
  have R10' := Lib.hid (rdN R10.out hN.bel)
  have R16' := Lib.hid (rdN R16.out hN.bel)
  have R18' := Lib.hid (rdN R18.out hN.bel)
  have R22' := Lib.hid (rdN R22.out hN.bel)
  have R24' := Lib.hid (rdN R24.out hN.bel)
  clear R4; have R4 := R4'; clear R4'
  clear R6; have R6 := R6'; clear R6'
  clear R8; have R8 := R8'; clear R8'
  clear R10; have R10 := R10'; clear R10'
  clear R16; have R16 := R16'; clear R16'
  clear R18; have R18 := R18'; clear R18'
  clear R22; have R22 := R22'; clear R22'
  clear R24; have R24 := R24'; clear R24'
  have HB' := Lib.hid (HB.out.trans (hN.bel.mono HB.out.size)); clear HB; have HB := HB'; clear HB'
  have J26 := Lib.hid (hN.rd)
  obtain ⟨A26, c26, rfl⟩ := J26.out.slice
  have hl26 := hN.len
  have Hs26 := Lib.hid hN.sz
  have hT26 := txJ_small hsm
  clear hN hsm
  have HXI := Lib.hid (fun wx hx ht => TextJI_any wx.heap.size (.slice A26 xs26.length c26) xs26 wx hx (Nat.le_refl _) (by omega) Hs26.out ht)
  have HXS := Lib.hid (fun wx hx => TextJS_any wx.heap.size (.slice A26 xs26.length c26) xs26 wx hx (Nat.le_refl _) (by omega) Hs26.out)
  have HBk := Lib.hid (@txJ_back xs26)
  have HRd := Lib.hid (fun wx ht => ReadJI_any (txJ xs26) wx hT26 ht)
  unfold RetRj at HRd
  generalize txJ xs26 = T27 at *
  generalize rdJobs T27 = r28 at *
  clear hT26
  go_wp2_with fail
  refine (HXI.out _ J26.out (HTb.out _ HB.out)).mono ?_; rintro e wn ⟨rfl, hb⟩
  have J3' := Lib.hid (J3.out.next hb); clear J3; have J3 := J3'; clear J3'
  have J26' := Lib.hid (J26.out.next hb); clear J26; have J26 := J26'; clear J26'
  have R4' := Lib.hid (rdN R4.out hb)
  have R6' := Lib.hid (rdN R6.out hb)
  have R8' := Lib.hid (rdN R8.out hb)
  have R10' := Lib.hid (rdN R10.out hb)
  have R16' := Lib.hid (rdN R16.out hb)
  have R18' := Lib.hid (rdN R18.out hb)
  have R22' := Lib.hid (rdN R22.out hb)
  have R24' := Lib.hid (rdN R24.out hb)
  clear R4; have R4 := R4'; clear R4'
  clear R6; have R6 := R6'; clear R6'
  clear R8; have R8 := R8'; clear R8'
  clear R10; have R10 := R10'; clear R10'
  clear R16; have R16 := R16'; clear R16'
  clear R18; have R18 := R18'; clear R18'
  clear R22; have R22 := R22'; clear R22'
  clear R24; have R24 := R24'; clear R24'
  have HB' := Lib.hid (HB.out.trans (hb.mono HB.out.size)); clear HB; have HB := HB'; clear HB'
  clear hb HXI
  go_wp2_with fail
  refine (HRd.out _ (HTb.out _ HB.out)).mono ?_; rintro e wn ⟨v28, ys28, rfl, he28, ho, hz28, hn28⟩
  have J3' := Lib.hid (J3.out.next ho.bel); clear J3; have J3 := J3'; clear J3'
  have J26' := Lib.hid (J26.out.next ho.bel); clear J26; have J26 := J26'; clear J26'
  have R4' := Lib.hid (rdN R4.out ho.bel)
  have R6' := Lib.hid (rdN R6.out ho.bel)
  have R8' := Lib.hid (rdN R8.out ho.bel)
  have R10' := Lib.hid (rdN R10.out ho.bel)
  have R16' := Lib.hid (rdN R16.out ho.bel)
  have R18' := Lib.hid (rdN R18.out ho.bel)
  have R22' := Lib.hid (rdN R22.out ho.bel)
  have R24' := Lib.hid (rdN R24.out ho.bel)
  clear R4; have R4 := R4'; clear R4'
  clear R6; have R6 := R6'; clear R6'
  clear R8; have R8 := R8'; clear R8'
  clear R10; have R10 := R10'; clear R10'
  clear R16; have R16 := R16'; clear R16'
  clear R18; have R18 := R18'; clear R18'
  clear R22; have R22 := R22'; clear R22'
  clear R24; have R24 := R24'; clear R24'
  have HB' := Lib.hid (HB.out.trans (ho.bel.mono HB.out.size)); clear HB; have HB := HB'; clear HB'
  have hl28 : (r28.getD []).length ≤ 30 := by rw [← he28, jbsOf_len]; exact hn28
  have J28 := Lib.hid (show RdJ wn wn.heap.size v28 (r28.getD []) from by rw [← he28]; exact ho.rd)
  obtain ⟨A28, c28, rfl⟩ := J28.out.slice
  rw [he28] at hz28
  have Hs28 := Lib.hid hz28
  clear ho he28 hz28 hn28 HRd ys28
  go_wp2_with fail
  refine (drawRJ_any _ _ bs _ (HC.out.below HB.out) HB.out.size).mono ?_; rintro e wn ⟨s30, rfl, hs30, hb⟩
  have J3' := Lib.hid (J3.out.next hb); clear J3; have J3 := J3'; clear J3'
  have J26' := Lib.hid (J26.out.next hb); clear J26; have J26 := J26'; clear J26'
  have J28' := Lib.hid (J28.out.next hb); clear J28; have J28 := J28'; clear J28'
  have R4' := Lib.hid (rdN R4.out hb)
  have R6' := Lib.hid (rdN R6.out hb)
  have R8' := Lib.hid (rdN R8.out hb)
  have R10' := Lib.hid (rdN R10.out hb)
  have R16' := Lib.hid (rdN R16.out hb)
  have R18' := Lib.hid (rdN R18.out hb)
  have R22' := Lib.hid (rdN R22.out hb)
  have R24' := Lib.hid (rdN R24.out hb)
  clear R4; have R4 := R4'; clear R4'
  clear R6; have R6 := R6'; clear R6'
  clear R8; have R8 := R8'; clear R8'
  clear R10; have R10 := R10'; clear R10'
  clear R16; have R16 := R16'; clear R16'
  clear R18; have R18 := R18'; clear R18'
  clear R22; have R22 := R22'; clear R22'
  clear R24; have R24 := R24'; clear R24'
  have HB' := Lib.hid (HB.out.trans (hb.mono HB.out.size)); clear HB; have HB := HB'; clear HB'
  clear hb
  have HXA := Lib.hid (fun wx ht => ReadJI_any s30 wx hs30 ht)
  have HXB := Lib.hid (fun wx => ReadJS_any s30 wx hs30)
  unfold RetRj at HXA HXB
  clear hs30
  generalize rdJobs s30 = r31 at *
  generalize r31.getD [] = xs31 at *
  generalize r31.isSome = o32 at *
  go_wp2_with fail
  refine (HXA.out _ (HTb.out _ HB.out)).mono ?_; rintro e wn ⟨v31, ys31, rfl, he31, ho, hz31, hn31⟩
  have J3' := Lib.hid (J3.out.next ho.bel); clear J3; have J3 := J3'; clear J3'
  have J26' := Lib.hid (J26.out.next ho.bel); clear J26; have J26 := J26'; clear J26'
  have J28' := Lib.hid (J28.out.next ho.bel); clear J28; have J28 := J28'; clear J28'
  have R4' := Lib.hid (rdN R4.out ho.bel)
  have R6' := Lib.hid (rdN R6.out ho.bel)
  have R8' := Lib.hid (rdN R8.out ho.bel)
  have R10' := Lib.hid (rdN R10.out ho.bel)
  have R16' := Lib.hid (rdN R16.out ho.bel)
  have R18' := Lib.hid (rdN R18.out ho.bel)
  have R22' := Lib.hid (rdN R22.out ho.bel)
  have R24' := Lib.hid (rdN R24.out ho.bel)
  clear R4; have R4 := R4'; clear R4'
  clear R6; have R6 := R6'; clear R6'
  clear R8; have R8 := R8'; clear R8'
  clear R10; have R10 := R10'; clear R10'
  clear R16; have R16 := R16'; clear R16'
  clear R18; have R18 := R18'; clear R18'
  clear R22; have R22 := R22'; clear R22'
  clear R24; have R24 := R24'; clear R24'
  have HB' := Lib.hid (HB.out.trans (ho.bel.mono HB.out.size)); clear HB; have HB := HB'; clear HB'
  have J31 := Lib.hid (show RdJ wn wn.heap.size v31 xs31 from by rw [← he31]; exact ho.rd)
  obtain ⟨A31, c31, rfl⟩ := J31.out.slice
  have hl31 : xs31.length ≤ 30 := by rw [← he31, jbsOf_len]; exact hn31
  rw [he31] at hz31
  have Hs31 := Lib.hid hz31
  clear ho he31 hz31 hn31 HXA ys31
  go_wp2_with fail
  refine (HXB.out _).mono ?_; rintro e wn ⟨v33, ys33, rfl, he33, ho, hz33, hn33⟩
  have J3' := Lib.hid (J3.out.next ho.bel); clear J3; have J3 := J3'; clear J3'
  have J26' := Lib.hid (J26.out.next ho.bel); clear J26; have J26 := J26'; clear J26'
  have J28' := Lib.hid (J28.out.next ho.bel); clear J28; have J28 := J28'; clear J28'
  have J31' := Lib.hid (J31.out.next ho.bel); clear J31; have J31 := J31'; clear J31'
  have R4' := Lib.hid (rdN R4.out ho.bel)
  have R6' := Lib.hid (rdN R6.out ho.bel)
  have R8' := Lib.hid (rdN R8.out ho.bel)
  have R10' := Lib.hid (rdN R10.out ho.bel)
  have R16' := Lib.hid (rdN R16.out ho.bel)
  have R18' := Lib.hid (rdN R18.out ho.bel)
  have R22' := Lib.hid (rdN R22.out ho.bel)
  have R24' := Lib.hid (rdN R24.out ho.bel)
  clear R4; have R4 := R4'; clear R4'
  clear R6; have R6 := R6'; clear R6'
  clear R8; have R8 := R8'; clear R8'
  clear R10; have R10 := R10'; clear R10'
  clear R16; have R16 := R16'; clear R16'
  clear R18; have R18 := R18'; clear R18'
  clear R22; have R22 := R22'; clear R22'
  clear R24; have R24 := R24'; clear R24'
  have HB' := Lib.hid (HB.out.trans (ho.bel.mono HB.out.size)); clear HB; have HB := HB'; clear HB'
  have J33 := Lib.hid (show RdJ wn wn.heap.size v33 xs31 from by rw [← he33]; exact ho.rd)
  obtain ⟨A33, c33, rfl⟩ := J33.out.slice
  clear ho he33 hz33 hn33 HXB ys33
  have HIs := Lib.hid (show (r28.isSome = true → T27 ≠ ⟨#[]⟩ → r28 = some xs26) ∧ (T27 ≠ ⟨#[]⟩ → r28.isSome = true) from ⟨fun _ h => HBk.out h, fun h => by rw [HBk.out h]; rfl⟩)
  clear HBk
  by_cases hT : T27 = ⟨#[]⟩
  · as_aux_lemma =>
      clear HIs
      subst hT
      generalize r28.isSome = o29 at *
      go_wp2_with fail
      refine (drawSJ_any _ _ bs _ (HC.out.below HB.out) HB.out.size).mono ?_; rintro e wn ⟨v35, v36, l35, l36, rfl, h35, h36, hl35, hz35, hb⟩
      have J3' := Lib.hid (J3.out.next hb); clear J3; have J3 := J3'; clear J3'
      have J26' := Lib.hid (J26.out.next hb); clear J26; have J26 := J26'; clear J26'
      have J28' := Lib.hid (J28.out.next hb); clear J28; have J28 := J28'; clear J28'
      have J31' := Lib.hid (J31.out.next hb); clear J31; have J31 := J31'; clear J31'
      have J33' := Lib.hid (J33.out.next hb); clear J33; have J33 := J33'; clear J33'
      have R4' := Lib.hid (rdN R4.out hb)
      have R6' := Lib.hid (rdN R6.out hb)
      have R8' := Lib.hid (rdN R8.out hb)
      have R10' := Lib.hid (rdN R10.out hb)
      have R16' := Lib.hid (rdN R16.out hb)
      have R18' := Lib.hid (rdN R18.out hb)
      have R22' := Lib.hid (rdN R22.out hb)
      have R24' := Lib.hid (rdN R24.out hb)
      clear R4; have R4 := R4'; clear R4'
      clear R6; have R6 := R6'; clear R6'
      clear R8; have R8 := R8'; clear R8'
      clear R10; have R10 := R10'; clear R10'
      clear R16; have R16 := R16'; clear R16'
      clear R18; have R18 := R18'; clear R18'
      clear R22; have R22 := R22'; clear R22'
      clear R24; have R24 := R24'; clear R24'
      have HB' := Lib.hid (HB.out.trans (hb.mono HB.out.size)); clear HB; have HB := HB'; clear HB'
      have J35 := Lib.hid (h35)
      obtain ⟨A35, c35, rfl⟩ := J35.out.slice
      have J36 := Lib.hid (h36)
      obtain ⟨A36, c36, rfl⟩ := J36.out.slice
      have Hs35 := Lib.hid hz35
      clear hb h35 h36 hz35 HC
      have HQI := Lib.hid (fun wx hx hy => SameJI_any wx.heap.size wx.heap.size (.slice A35 l35.length c35) (.slice A36 l36.length c36) l35 l36 wx hx hy (Nat.le_refl _) (Nat.le_refl _) (by omega) Hs35.out)
      have HQS := Lib.hid (fun wx hx hy => SameJS_any wx.heap.size wx.heap.size (.slice A35 l35.length c35) (.slice A36 l36.length c36) l35 l36 wx hx hy (Nat.le_refl _) (Nat.le_refl _) (by omega) Hs35.out)
      generalize decide (l35 = l36) = bq at *
      have HF := Lib.hid (f6ints_same _ _ _ _ N4 _ _ wn R4.out R6.out (by omega) (fun _ _ => rfl))
      go_wp2_with fail
      refine HF.out.mono ?_; rintro e wm ⟨rfl, d, hd⟩
      have hb : Below wn.heap.size wn wm := by rw [hd]; exact below_drewN (Below.refl _ _) d
      clear HF
      have J3' := Lib.hid (J3.out.next hb); clear J3; have J3 := J3'; clear J3'
      have J26' := Lib.hid (J26.out.next hb); clear J26; have J26 := J26'; clear J26'
      have J28' := Lib.hid (J28.out.next hb); clear J28; have J28 := J28'; clear J28'
      have J31' := Lib.hid (J31.out.next hb); clear J31; have J31 := J31'; clear J31'
      have J33' := Lib.hid (J33.out.next hb); clear J33; have J33 := J33'; clear J33'
      have J35' := Lib.hid (J35.out.next hb); clear J35; have J35 := J35'; clear J35'
      have J36' := Lib.hid (J36.out.next hb); clear J36; have J36 := J36'; clear J36'
      have R4' := Lib.hid (rdN R4.out hb)
      have R6' := Lib.hid (rdN R6.out hb)
      have R8' := Lib.hid (rdN R8.out hb)
      have R10' := Lib.hid (rdN R10.out hb)
      have R16' := Lib.hid (rdN R16.out hb)
      have R18' := Lib.hid (rdN R18.out hb)
      have R22' := Lib.hid (rdN R22.out hb)
      have R24' := Lib.hid (rdN R24.out hb)
      clear R4; have R4 := R4'; clear R4'
      clear R6; have R6 := R6'; clear R6'
      clear R8; have R8 := R8'; clear R8'
      clear R10; have R10 := R10'; clear R10'
      clear R16; have R16 := R16'; clear R16'
      clear R18; have R18 := R18'; clear R18'
      clear R22; have R22 := R22'; clear R22'
      clear R24; have R24 := R24'; clear R24'
      have HB' := Lib.hid (HB.out.trans (hb.mono HB.out.size)); clear HB; have HB := HB'; clear HB'
      clear hb hd
      obtain ⟨wn, rfl⟩ : ∃ z, z = wm := ⟨_, rfl⟩
      have HF := Lib.hid (f6ints_same _ _ _ _ N4 _ _ wn R8.out R10.out (by omega) (fun _ _ => rfl))
      go_wp2_with fail
      refine HF.out.mono ?_; rintro e wm ⟨rfl, d, hd⟩
      have hb : Below wn.heap.size wn wm := by rw [hd]; exact below_drewN (Below.refl _ _) d
      clear HF
      have J3' := Lib.hid (J3.out.next hb); clear J3; have J3 := J3'; clear J3'
      have J26' := Lib.hid (J26.out.next hb); clear J26; have J26 := J26'; clear J26'
      have J28' := Lib.hid (J28.out.next hb); clear J28; have J28 := J28'; clear J28'
      have J31' := Lib.hid (J31.out.next hb); clear J31; have J31 := J31'; clear J31'
      have J33' := Lib.hid (J33.out.next hb); clear J33; have J33 := J33'; clear J33'
      have J35' := Lib.hid (J35.out.next hb); clear J35; have J35 := J35'; clear J35'
      have J36' := Lib.hid (J36.out.next hb); clear J36; have J36 := J36'; clear J36'
      have R4' := Lib.hid (rdN R4.out hb)
      have R6' := Lib.hid (rdN R6.out hb)
      have R8' := Lib.hid (rdN R8.out hb)
      have R10' := Lib.hid (rdN R10.out hb)
      have R16' := Lib.hid (rdN R16.out hb)
      have R18' := Lib.hid (rdN R18.out hb)
      have R22' := Lib.hid (rdN R22.out hb)
      have R24' := Lib.hid (rdN R24.out hb)
      clear R4; have R4 := R4'; clear R4'
      clear R6; have R6 := R6'; clear R6'
      clear R8; have R8 := R8'; clear R8'
      clear R10; have R10 := R10'; clear R10'
      clear R16; have R16 := R16'; clear R16'
      clear R18; have R18 := R18'; clear R18'
      clear R22; have R22 := R22'; clear R22'
      clear R24; have R24 := R24'; clear R24'
      have HB' := Lib.hid (HB.out.trans (hb.mono HB.out.size)); clear HB; have HB := HB'; clear HB'
      clear hb hd
      obtain ⟨wn, rfl⟩ : ∃ z, z = wm := ⟨_, rfl⟩
      have HF := Lib.hid (f6ints_same _ _ _ _ L16.length _ _ wn (rd_natJ R16.out) (rd_natJ R18.out) (by omega) (fun _ _ => rfl))
      go_wp2_with fail
      refine HF.out.mono ?_; rintro e wm ⟨rfl, d, hd⟩
      have hb : Below wn.heap.size wn wm := by rw [hd]; exact below_drewN (Below.refl _ _) d
      clear HF
      have J3' := Lib.hid (J3.out.next hb); clear J3; have J3 := J3'; clear J3'
      have J26' := Lib.hid (J26.out.next hb); clear J26; have J26 := J26'; clear J26'
      have J28' := Lib.hid (J28.out.next hb); clear J28; have J28 := J28'; clear J28'
      have J31' := Lib.hid (J31.out.next hb); clear J31; have J31 := J31'; clear J31'
      have J33' := Lib.hid (J33.out.next hb); clear J33; have J33 := J33'; clear J33'
      have J35' := Lib.hid (J35.out.next hb); clear J35; have J35 := J35'; clear J35'
      have J36' := Lib.hid (J36.out.next hb); clear J36; have J36 := J36'; clear J36'
      have R4' := Lib.hid (rdN R4.out hb)
      have R6' := Lib.hid (rdN R6.out hb)
      have R8' := Lib.hid (rdN R8.out hb)
      have R10' := Lib.hid (rdN R10.out hb)
      have R16' := Lib.hid (rdN R16.out hb)
      have R18' := Lib.hid (rdN R18.out hb)
      have R22' := Lib.hid (rdN R22.out hb)
      have R24' := Lib.hid (rdN R24.out hb)
      clear R4; have R4 := R4'; clear R4'
      clear R6; have R6 := R6'; clear R6'
      clear R8; have R8 := R8'; clear R8'
      clear R10; have R10 := R10'; clear R10'
      clear R16; have R16 := R16'; clear R16'
      clear R18; have R18 := R18'; clear R18'
      clear R22; have R22 := R22'; clear R22'
      clear R24; have R24 := R24'; clear R24'
      have HB' := Lib.hid (HB.out.trans (hb.mono HB.out.size)); clear HB; have HB := HB'; clear HB'
      clear hb hd
      obtain ⟨wn, rfl⟩ : ∃ z, z = wm := ⟨_, rfl⟩
      have HF := Lib.hid (f6ints_same _ _ _ _ L22.length _ _ wn (rd_natJ R22.out) (rd_natJ R24.out) (by omega) (fun _ _ => rfl))
      go_wp2_with fail
      refine HF.out.mono ?_; rintro e wm ⟨rfl, d, hd⟩
      have hb : Below wn.heap.size wn wm := by rw [hd]; exact below_drewN (Below.refl _ _) d
      clear HF
      have J3' := Lib.hid (J3.out.next hb); clear J3; have J3 := J3'; clear J3'
      have J26' := Lib.hid (J26.out.next hb); clear J26; have J26 := J26'; clear J26'
      have J28' := Lib.hid (J28.out.next hb); clear J28; have J28 := J28'; clear J28'
      have J31' := Lib.hid (J31.out.next hb); clear J31; have J31 := J31'; clear J31'
      have J33' := Lib.hid (J33.out.next hb); clear J33; have J33 := J33'; clear J33'
      have J35' := Lib.hid (J35.out.next hb); clear J35; have J35 := J35'; clear J35'
      have J36' := Lib.hid (J36.out.next hb); clear J36; have J36 := J36'; clear J36'
      have R4' := Lib.hid (rdN R4.out hb)
      have R6' := Lib.hid (rdN R6.out hb)
      have R8' := Lib.hid (rdN R8.out hb)
      have R10' := Lib.hid (rdN R10.out hb)
      have R16' := Lib.hid (rdN R16.out hb)
      have R18' := Lib.hid (rdN R18.out hb)
      have R22' := Lib.hid (rdN R22.out hb)
      have R24' := Lib.hid (rdN R24.out hb)
      clear R4; have R4 := R4'; clear R4'
      clear R6; have R6 := R6'; clear R6'
      clear R8; have R8 := R8'; clear R8'
      clear R10; have R10 := R10'; clear R10'
      clear R16; have R16 := R16'; clear R16'
      clear R18; have R18 := R18'; clear R18'
      clear R22; have R22 := R22'; clear R22'
      clear R24; have R24 := R24'; clear R24'
      have HB' := Lib.hid (HB.out.trans (hb.mono HB.out.size)); clear HB; have HB := HB'; clear HB'
      clear hb hd
      obtain ⟨wn, rfl⟩ : ∃ z, z = wm := ⟨_, rfl⟩
      clear R6
      clear R10
      clear R16
      clear R18
      clear R22
      clear R24
      go_wp2_with fail
      refine (HXS.out _ J26.out).mono ?_; rintro e wn ⟨rfl, hb⟩
      have J3' := Lib.hid (J3.out.next hb); clear J3; have J3 := J3'; clear J3'
      have J26' := Lib.hid (J26.out.next hb); clear J26; have J26 := J26'; clear J26'
      have J28' := Lib.hid (J28.out.next hb); clear J28; have J28 := J28'; clear J28'
      have J31' := Lib.hid (J31.out.next hb); clear J31; have J31 := J31'; clear J31'
      have J33' := Lib.hid (J33.out.next hb); clear J33; have J33 := J33'; clear J33'
      have J35' := Lib.hid (J35.out.next hb); clear J35; have J35 := J35'; clear J35'
      have J36' := Lib.hid (J36.out.next hb); clear J36; have J36 := J36'; clear J36'
      have R4' := Lib.hid (rdN R4.out hb)
      have R8' := Lib.hid (rdN R8.out hb)
      clear R4; have R4 := R4'; clear R4'
      clear R8; have R8 := R8'; clear R8'
      have HB' := Lib.hid (HB.out.trans (hb.mono HB.out.size)); clear HB; have HB := HB'; clear HB'
      clear hb HXS
      clear J26
      clear J28
      clear Hs26 Hs28 hl26
      go_wp2_with fail
      all_goals (try exact (undef_noJ (by assumption)).elim)
      have HF := Lib.hid (by have h := SameJS_any wn.heap.size wn.heap.size (.slice A31 xs31.length c31) (.slice A33 xs31.length c33) xs31 xs31 wn J31.out J33.out (Nat.le_refl _) (Nat.le_refl _) (by omega) Hs31.out; rwa [decide_eq_true rfl] at h : Calls Tryd.prog 47 #[.slice A31 xs31.length c31, .slice A33 xs31.length c33] wn fun e w' => e = .returned (.bool true) ∧ Below wn.heap.size wn w')
      refine (HF.out).mono ?_; rintro e wn ⟨rfl, hb⟩
      have J3' := Lib.hid (J3.out.next hb); clear J3; have J3 := J3'; clear J3'
      have J31' := Lib.hid (J31.out.next hb); clear J31; have J31 := J31'; clear J31'
      have J33' := Lib.hid (J33.out.next hb); clear J33; have J33 := J33'; clear J33'
      have J35' := Lib.hid (J35.out.next hb); clear J35; have J35 := J35'; clear J35'
      have J36' := Lib.hid (J36.out.next hb); clear J36; have J36 := J36'; clear J36'
      have R4' := Lib.hid (rdN R4.out hb)
      have R8' := Lib.hid (rdN R8.out hb)
      clear R4; have R4 := R4'; clear R4'
      clear R8; have R8 := R8'; clear R8'
      have HB' := Lib.hid (HB.out.trans (hb.mono HB.out.size)); clear HB; have HB := HB'; clear HB'
      clear hb HF
      clear J31
      clear J33
      clear hl31 Hs31
      go_wp2_with fail
      refine (HQI.out wn J35.out J36.out).mono ?_; rintro e wn ⟨rfl, hb⟩
      have J3' := Lib.hid (J3.out.next hb); clear J3; have J3 := J3'; clear J3'
      have J35' := Lib.hid (J35.out.next hb); clear J35; have J35 := J35'; clear J35'
      have J36' := Lib.hid (J36.out.next hb); clear J36; have J36 := J36'; clear J36'
      have R4' := Lib.hid (rdN R4.out hb)
      have R8' := Lib.hid (rdN R8.out hb)
      clear R4; have R4 := R4'; clear R4'
      clear R8; have R8 := R8'; clear R8'
      have HB' := Lib.hid (HB.out.trans (hb.mono HB.out.size)); clear HB; have HB := HB'; clear HB'
      clear hb HQI
      go_wp2_with fail
      refine (HQS.out wn J35.out J36.out).mono ?_; rintro e wn ⟨rfl, hb⟩
      have J3' := Lib.hid (J3.out.next hb); clear J3; have J3 := J3'; clear J3'
      have J35' := Lib.hid (J35.out.next hb); clear J35; have J35 := J35'; clear J35'
      have J36' := Lib.hid (J36.out.next hb); clear J36; have J36 := J36'; clear J36'
      have R4' := Lib.hid (rdN R4.out hb)
      have R8' := Lib.hid (rdN R8.out hb)
      clear R4; have R4 := R4'; clear R4'
      clear R8; have R8 := R8'; clear R8'
      have HB' := Lib.hid (HB.out.trans (hb.mono HB.out.size)); clear HB; have HB := HB'; clear HB'
      clear hb HQS
      clear J35
      clear J36
      clear hl35 Hs35
      go_wp2_with fail
      refine (HVI.out _ J3.out).mono ?_; rintro e wn ⟨rfl, hb⟩
      have J3' := Lib.hid (J3.out.next hb); clear J3; have J3 := J3'; clear J3'
      have R4' := Lib.hid (rdN R4.out hb)
      have R8' := Lib.hid (rdN R8.out hb)
      clear R4; have R4 := R4'; clear R4'
      clear R8; have R8 := R8'; clear R8'
      have HB' := Lib.hid (HB.out.trans (hb.mono HB.out.size)); clear HB; have HB := HB'; clear HB'
      clear hb HVI
      go_wp2_with fail
      refine (HVS.out _ J3.out).mono ?_; rintro e wn ⟨rfl, hb⟩
      have J3' := Lib.hid (J3.out.next hb); clear J3; have J3 := J3'; clear J3'
      have R4' := Lib.hid (rdN R4.out hb)
      have R8' := Lib.hid (rdN R8.out hb)
      clear R4; have R4 := R4'; clear R4'
      clear R8; have R8 := R8'; clear R8'
      have HB' := Lib.hid (HB.out.trans (hb.mono HB.out.size)); clear HB; have HB := HB'; clear HB'
      clear hb HVS
      by_cases hc5 : C5 = 0
      · as_aux_lemma =>
          obtain ⟨hN4, hL16, hday, hnd, hpos⟩ := HLaw.out hc5
          subst hc5 hN4 hL16
          have HDay := Lib.hid hday
          have HNd := Lib.hid hnd
          have HPos := Lib.hid hpos
          clear hday hnd hpos HLaw
          go_wp2_with fail
          go_loopw [37, 38] (fun n i wr => ∃ k : Nat, k ≤ xs3.length ∧ i = .int .i64 (k : Int) ∧ n = .int .i64 ((crL xs3 k).length : Int) ∧ Below wn.heap.size wn wr) (fun _ i _ => xs3.length - (intOf i).toNat)
          case atStart => exact ⟨0, Nat.zero_le _, rfl, rfl, Below.refl _ _⟩
          case round =>
            obtain ⟨k, hk, rfl, rfl, hbr⟩ := hrel
            by_cases hlt : k < xs3.length
            · have hlt' : (k : Int) < (xs3.length : Int) := by omega
              obtain ⟨b4, o4, hA4, _, hc4⟩ := rdF_all (R4.out.below hbr) (show 0 < xs3.length by omega)
              subst hA4
              obtain ⟨b8, o8, hA8, _, hc8⟩ := rdF_all (R8.out.below hbr) (show 0 < xs3.length by omega)
              subst hA8
              have t4 := hc4 k hlt
              have t8 := hc8 k hlt
              obtain ⟨b3, o3, A9, c9, hA3, hat⟩ := (J3.out.below hbr).at k hlt
              subst hA3
              have t3 := hat.c1
              have hfac := HDay.out k hlt
              have hws : IntKind.i64.wrap (late xs3 k + (jg xs3 k).days) = late xs3 k + (jg xs3 k).days := IntWalk.i64_in _ (by omega)
              have hg1 : decide (late xs3 k < erl xs3 k) = false := decide_eq_false (by omega)
              have hg2 : decide (D12 < late xs3 k + (jg xs3 k).days) = false := decide_eq_false (by omega)
              have hg1' : ¬ (late xs3 k < erl xs3 k) := by omega
              have hg2' : ¬ (D12 < late xs3 k + (jg xs3 k).days) := by omega
              have hln := crL_len xs3 k
              have Hsz := Lib.hid (show (jg xs3 k).needs.length ≤ 1048576 from (Hs3.out k hlt).2)
              have hst : (((crL xs3 k).length : Int) + (if erl xs3 k = late xs3 k then 1 else 0)) = ((crL xs3 (k + 1)).length : Int) := by
                by_cases he : erl xs3 k = late xs3 k
                · rw [if_pos he, crL_yes he, List.length_append]; simp
                · rw [if_neg he, crL_no he]; omega
              have HX := Lib.hid (fun wy (hy : Below wn.heap.size wn wy) => (J3.out.below hy).at k hlt)
              have H4 := Lib.hid (fun wy (hy : Below wn.heap.size wn wy) => rdF_all (R4.out.below hy) (show 0 < xs3.length by omega))
              have H8 := Lib.hid (fun wy (hy : Below wn.heap.size wn wy) => rdF_all (R8.out.below hy) (show 0 < xs3.length by omega))
              have HJ := Lib.hid (fun wy (hy : Below wn.heap.size wn wy) (m : Nat) (hm : m < xs3.length) => (J3.out.below hy).at m hm)
              have Hbr := Lib.hid hbr
              have HNk := Lib.hid (HNd.out k hlt)
              have Hlt := Lib.hid hlt
              have HDm := Lib.hid (fun m (hm : m < k) => HDay.out m (by omega))
              obtain ⟨nl, hnl⟩ : ∃ z, (jg xs3 k).needs.length = z := ⟨_, rfl⟩
              have Hnl := Lib.hid hnl
              rw [hnl] at Hsz
              have Hst := Lib.hid hst
              clear hc4 hc8 hat hbr hnl hst
              obtain ⟨q2, hq2⟩ : ∃ z, (crL xs3 (k + 1)).length = z := ⟨_, rfl⟩
              have Hq2 := Lib.hid hq2
              rw [hq2] at Hst
              clear hq2 HDay HNd HPos
              have hsn := Hsz.out
              by_cases he : erl xs3 k = late xs3 k
              · have hq := Hst.out
                rw [if_pos he] at hq
                generalize (crL xs3 k).length = q at *
                have hqw : IntKind.i64.wrap ((q : Int) + 1) = (q2 : Int) := by rw [hq]; exact IntWalk.i64_in _ (by omega)
                have Hq := Lib.hid hq
                clear hq Hst
                rw [he] at t4
                have hg1 : decide (late xs3 k < late xs3 k) = false := decide_eq_false (by omega)
                have hg1' : ¬ (late xs3 k < late xs3 k) := by omega
                obtain ⟨wb, rfl⟩ : ∃ z, z = wr := ⟨_, rfl⟩
                obtain ⟨lk, hlk⟩ : ∃ z, late xs3 k = z := ⟨_, rfl⟩
                have Hlk := Lib.hid hlk
                rw [hlk] at t4 t8 hws hg1 hg1' hg2 hg2'
                clear hlk hfac he
                obtain ⟨dk, hdk⟩ : ∃ z, (jg xs3 k).days = z := ⟨_, rfl⟩
                rw [hdk] at t3 hws hg2 hg2'
                clear hdk
                go_wp2_with fail
                go_quiet (fail)
                go_wp2_with fail
                go_quiet (fail)
                go_wp2_with fail
                as_aux_lemma =>
                  go_loopw [39] (fun j wy => ∃ j' : Nat, j' ≤ nl ∧ j = .int .i64 (j' : Int) ∧ Below wn.heap.size wn wy) (fun j _ => nl - (intOf j).toNat)
                  case atStart => exact ⟨0, Nat.zero_le _, rfl, by first | exact below_drewN (below_drewN Hbr.out _) _ | exact below_drewN Hbr.out _⟩
                  case round =>
                    obtain ⟨j, hj, rfl, hby⟩ := hrel
                    have Hby := Lib.hid hby
                    obtain ⟨b3', o3', A9', c9', hA3', hat2⟩ := HX.out _ hby
                    obtain ⟨rfl, rfl⟩ := adr_inj hA3'
                    have y3 := hat2.c3
                    have hnds := hat2.needs
                    rw [Hnl.out] at y3 hnds
                    by_cases hjl : j < nl
                    · have hjl' : (j : Int) < (nl : Int) := by omega
                      have hid : j < (jg xs3 k).needs.length := by rw [Hnl.out]; exact hjl
                      obtain ⟨b7, o7, hA7, _, hcc⟩ := rdI_at hnds Hnl.out (by omega)
                      subst hA7
                      have q1 := hcc j hid
                      obtain ⟨p, hp, hne, hf1, hf2⟩ := HNk.out j hid
                      rw [hne] at q1
                      have hlt2 := Hlt.out
                      have hpl : (p : Int) < (xs3.length : Int) := by omega
                      obtain ⟨b4', o4', hA4', _, hc4'⟩ := H4.out _ hby
                      obtain ⟨rfl, rfl⟩ := adr_inj hA4'
                      obtain ⟨b8', o8', hA8', _, hc8'⟩ := H8.out _ hby
                      obtain ⟨rfl, rfl⟩ := adr_inj hA8'
                      obtain ⟨b5, o5, A5x, c5x, hA5, hat5⟩ := HJ.out _ hby p (by omega)
                      obtain ⟨rfl, rfl⟩ := adr_inj hA5
                      have u1 := hc4' p (by omega)
                      have u2 := hc4' k hlt2
                      have u3 := hc8' p (by omega)
                      have u4 := hc8' k hlt2
                      have u5 := hat5.c1
                      obtain ⟨h1, h2, h3, h4, h5, h6⟩ := HDm.out p (by omega)
                      have hw1 : IntKind.i64.wrap (erl xs3 p + (jg xs3 p).days) = erl xs3 p + (jg xs3 p).days := IntWalk.i64_in _ (by omega)
                      have hw2 : IntKind.i64.wrap (late xs3 p + (jg xs3 p).days) = late xs3 p + (jg xs3 p).days := IntWalk.i64_in _ (by omega)
                      have hd1 : decide (erl xs3 k < erl xs3 p + (jg xs3 p).days) = false := decide_eq_false (by omega)
                      have hd2 : decide (late xs3 k < late xs3 p + (jg xs3 p).days) = false := decide_eq_false (by omega)
                      have hd1' : ¬ (erl xs3 k < erl xs3 p + (jg xs3 p).days) := by omega
                      have hd2' : ¬ (late xs3 k < late xs3 p + (jg xs3 p).days) := by omega
                      clear hcc hc4' hc8' hat2 hat5 hnds hby hne hf1 hf2 h1 h2 h3 h4 h5 h6 hid hlt2
                      generalize erl xs3 p = e1 at *
                      generalize late xs3 p = l1 at *
                      generalize (jg xs3 p).days = d1 at *
                      generalize erl xs3 k = e2 at *
                      generalize late xs3 k = l2 at *
                      go_wp2_with fail
                      go_quiet (fail)
                      have Hby2 := Lib.hid (below_drewN Hby.out nq)
                      go_wp2_with fail
                      go_roundw
                      case rel => exact ⟨j + 1, by omega, by go_num, Hby2.out⟩
                      case measure => first | (simp [intOf]; done) | (simp [intOf]; omega)
                    · obtain rfl : nl = j := by omega
                      have hjl' : ¬ ((nl : Int) < (nl : Int)) := by omega
                      clear hat2 hnds hby
                      go_wp2_with fail
                      go_roundw
                      case rel => exact ⟨k + 1, by omega, by go_num, by rw [Hq2.out], Hby.out⟩
                      case measure => first | (simp [intOf]; done) | (simp [intOf]; omega)
              · have heb : (erl xs3 k == late xs3 k) = false := by simp [he]
                have hq := Hst.out
                rw [if_neg he] at hq
                generalize (crL xs3 k).length = q at *
                have hqe : q = q2 := by omega
                subst hqe
                clear hq Hst hfac
                obtain ⟨wb, rfl⟩ : ∃ z, z = wr := ⟨_, rfl⟩
                obtain ⟨ek, hek⟩ : ∃ z, erl xs3 k = z := ⟨_, rfl⟩
                obtain ⟨lk, hlk⟩ : ∃ z, late xs3 k = z := ⟨_, rfl⟩
                rw [hek] at t4 hg1 hg1' heb
                rw [hlk] at t8 hws hg1 hg1' hg2 hg2' heb
                clear hek hlk he
                obtain ⟨dk, hdk⟩ : ∃ z, (jg xs3 k).days = z := ⟨_, rfl⟩
                rw [hdk] at t3 hws hg2 hg2'
                clear hdk
                go_wp2_with fail
                go_quiet (fail)
                go_wp2_with fail
                go_quiet (fail)
                go_wp2_with fail
                as_aux_lemma =>
                  go_loopw [39] (fun j wy => ∃ j' : Nat, j' ≤ nl ∧ j = .int .i64 (j' : Int) ∧ Below wn.heap.size wn wy) (fun j _ => nl - (intOf j).toNat)
                  case atStart => exact ⟨0, Nat.zero_le _, rfl, by first | exact below_drewN (below_drewN Hbr.out _) _ | exact below_drewN Hbr.out _⟩
                  case round =>
                    obtain ⟨j, hj, rfl, hby⟩ := hrel
                    have Hby := Lib.hid hby
                    obtain ⟨b3', o3', A9', c9', hA3', hat2⟩ := HX.out _ hby
                    obtain ⟨rfl, rfl⟩ := adr_inj hA3'
                    have y3 := hat2.c3
                    have hnds := hat2.needs
                    rw [Hnl.out] at y3 hnds
                    by_cases hjl : j < nl
                    · have hjl' : (j : Int) < (nl : Int) := by omega
                      have hid : j < (jg xs3 k).needs.length := by rw [Hnl.out]; exact hjl
                      obtain ⟨b7, o7, hA7, _, hcc⟩ := rdI_at hnds Hnl.out (by omega)
                      subst hA7
                      have q1 := hcc j hid
                      obtain ⟨p, hp, hne, hf1, hf2⟩ := HNk.out j hid
                      rw [hne] at q1
                      have hlt2 := Hlt.out
                      have hpl : (p : Int) < (xs3.length : Int) := by omega
                      obtain ⟨b4', o4', hA4', _, hc4'⟩ := H4.out _ hby
                      obtain ⟨rfl, rfl⟩ := adr_inj hA4'
                      obtain ⟨b8', o8', hA8', _, hc8'⟩ := H8.out _ hby
                      obtain ⟨rfl, rfl⟩ := adr_inj hA8'
                      obtain ⟨b5, o5, A5x, c5x, hA5, hat5⟩ := HJ.out _ hby p (by omega)
                      obtain ⟨rfl, rfl⟩ := adr_inj hA5
                      have u1 := hc4' p (by omega)
                      have u2 := hc4' k hlt2
                      have u3 := hc8' p (by omega)
                      have u4 := hc8' k hlt2
                      have u5 := hat5.c1
                      obtain ⟨h1, h2, h3, h4, h5, h6⟩ := HDm.out p (by omega)
                      have hw1 : IntKind.i64.wrap (erl xs3 p + (jg xs3 p).days) = erl xs3 p + (jg xs3 p).days := IntWalk.i64_in _ (by omega)
                      have hw2 : IntKind.i64.wrap (late xs3 p + (jg xs3 p).days) = late xs3 p + (jg xs3 p).days := IntWalk.i64_in _ (by omega)
                      have hd1 : decide (erl xs3 k < erl xs3 p + (jg xs3 p).days) = false := decide_eq_false (by omega)
                      have hd2 : decide (late xs3 k < late xs3 p + (jg xs3 p).days) = false := decide_eq_false (by omega)
                      have hd1' : ¬ (erl xs3 k < erl xs3 p + (jg xs3 p).days) := by omega
                      have hd2' : ¬ (late xs3 k < late xs3 p + (jg xs3 p).days) := by omega
                      clear hcc hc4' hc8' hat2 hat5 hnds hby hne hf1 hf2 h1 h2 h3 h4 h5 h6 hid hlt2
                      generalize erl xs3 p = e1 at *
                      generalize late xs3 p = l1 at *
                      generalize (jg xs3 p).days = d1 at *
                      generalize erl xs3 k = e2 at *
                      generalize late xs3 k = l2 at *
                      go_wp2_with fail
                      go_quiet (fail)
                      have Hby2 := Lib.hid (below_drewN Hby.out nq)
                      go_wp2_with fail
                      go_roundw
                      case rel => exact ⟨j + 1, by omega, by go_num, Hby2.out⟩
                      case measure => first | (simp [intOf]; done) | (simp [intOf]; omega)
                    · obtain rfl : nl = j := by omega
                      have hjl' : ¬ ((nl : Int) < (nl : Int)) := by omega
                      clear hat2 hnds hby
                      go_wp2_with fail
                      go_roundw
                      case rel => exact ⟨k + 1, by omega, by go_num, by rw [Hq2.out], Hby.out⟩
                      case measure => first | (simp [intOf]; done) | (simp [intOf]; omega)
            · obtain rfl : k = xs3.length := by omega
              have hlt' : ¬ ((xs3.length : Int) < (xs3.length : Int)) := by omega
              have Hz := Lib.hid (HB.out.trans (hbr.mono HB.out.size))
              clear hbr
              by_cases h0 : xs3.length = 0
              · have h0' : ((xs3.length : Int) == 0) = true := by rw [beq_iff_eq]; omega
                generalize (crL xs3 xs3.length).length = q at *
                go_wp2_with fail
                go_ret
                exact ⟨rfl, Hz.out⟩
              · have h0' : ((xs3.length : Int) == 0) = false := by rw [beq_eq_false_iff_ne]; omega
                have hq := HPos.out (by omega)
                generalize (crL xs3 xs3.length).length = q at *
                have hq' : (0 : Int) < (q : Int) := by omega
                go_wp2_with fail
                go_ret
                exact ⟨rfl, Hz.out⟩
      · have hc5' : (C5 == 0) = false := by simp [hc5]
        have hc5'' : (C5 != 0) = true := by simp [hc5]
        clear HLaw hc5
        go_wp2_with fail
        go_ret
        exact ⟨rfl, HB.out⟩
  · as_aux_lemma =>
      have hT27 : (T27.toList == []) = false := by rw [beq_eq_false_iff_ne]; intro e; exact hT (ba_inj (by rw [e, ByteArray.toList_eq]))
      have ho29 := HIs.out.2 hT
      have hr28 := HIs.out.1 ho29 hT
      subst hr28
      clear HIs hT ho29 hl28
      rw [show (some xs26).getD [] = xs26 from rfl] at *
      go_wp2_with fail
      refine (drawSJ_any _ _ bs _ (HC.out.below HB.out) HB.out.size).mono ?_; rintro e wn ⟨v35, v36, l35, l36, rfl, h35, h36, hl35, hz35, hb⟩
      have J3' := Lib.hid (J3.out.next hb); clear J3; have J3 := J3'; clear J3'
      have J26' := Lib.hid (J26.out.next hb); clear J26; have J26 := J26'; clear J26'
      have J28' := Lib.hid (J28.out.next hb); clear J28; have J28 := J28'; clear J28'
      have J31' := Lib.hid (J31.out.next hb); clear J31; have J31 := J31'; clear J31'
      have J33' := Lib.hid (J33.out.next hb); clear J33; have J33 := J33'; clear J33'
      have R4' := Lib.hid (rdN R4.out hb)
      have R6' := Lib.hid (rdN R6.out hb)
      have R8' := Lib.hid (rdN R8.out hb)
      have R10' := Lib.hid (rdN R10.out hb)
      have R16' := Lib.hid (rdN R16.out hb)
      have R18' := Lib.hid (rdN R18.out hb)
      have R22' := Lib.hid (rdN R22.out hb)
      have R24' := Lib.hid (rdN R24.out hb)
      clear R4; have R4 := R4'; clear R4'
      clear R6; have R6 := R6'; clear R6'
      clear R8; have R8 := R8'; clear R8'
      clear R10; have R10 := R10'; clear R10'
      clear R16; have R16 := R16'; clear R16'
      clear R18; have R18 := R18'; clear R18'
      clear R22; have R22 := R22'; clear R22'
      clear R24; have R24 := R24'; clear R24'
      have HB' := Lib.hid (HB.out.trans (hb.mono HB.out.size)); clear HB; have HB := HB'; clear HB'
      have J35 := Lib.hid (h35)
      obtain ⟨A35, c35, rfl⟩ := J35.out.slice
      have J36 := Lib.hid (h36)
      obtain ⟨A36, c36, rfl⟩ := J36.out.slice
      have Hs35 := Lib.hid hz35
      clear hb h35 h36 hz35 HC
      have HQI := Lib.hid (fun wx hx hy => SameJI_any wx.heap.size wx.heap.size (.slice A35 l35.length c35) (.slice A36 l36.length c36) l35 l36 wx hx hy (Nat.le_refl _) (Nat.le_refl _) (by omega) Hs35.out)
      have HQS := Lib.hid (fun wx hx hy => SameJS_any wx.heap.size wx.heap.size (.slice A35 l35.length c35) (.slice A36 l36.length c36) l35 l36 wx hx hy (Nat.le_refl _) (Nat.le_refl _) (by omega) Hs35.out)
      generalize decide (l35 = l36) = bq at *
      have HF := Lib.hid (f6ints_same _ _ _ _ N4 _ _ wn R4.out R6.out (by omega) (fun _ _ => rfl))
      go_wp2_with fail
      refine HF.out.mono ?_; rintro e wm ⟨rfl, d, hd⟩
      have hb : Below wn.heap.size wn wm := by rw [hd]; exact below_drewN (Below.refl _ _) d
      clear HF
      have J3' := Lib.hid (J3.out.next hb); clear J3; have J3 := J3'; clear J3'
      have J26' := Lib.hid (J26.out.next hb); clear J26; have J26 := J26'; clear J26'
      have J28' := Lib.hid (J28.out.next hb); clear J28; have J28 := J28'; clear J28'
      have J31' := Lib.hid (J31.out.next hb); clear J31; have J31 := J31'; clear J31'
      have J33' := Lib.hid (J33.out.next hb); clear J33; have J33 := J33'; clear J33'
      have J35' := Lib.hid (J35.out.next hb); clear J35; have J35 := J35'; clear J35'
      have J36' := Lib.hid (J36.out.next hb); clear J36; have J36 := J36'; clear J36'
      have R4' := Lib.hid (rdN R4.out hb)
      have R6' := Lib.hid (rdN R6.out hb)
      have R8' := Lib.hid (rdN R8.out hb)
      have R10' := Lib.hid (rdN R10.out hb)
      have R16' := Lib.hid (rdN R16.out hb)
      have R18' := Lib.hid (rdN R18.out hb)
      have R22' := Lib.hid (rdN R22.out hb)
      have R24' := Lib.hid (rdN R24.out hb)
      clear R4; have R4 := R4'; clear R4'
      clear R6; have R6 := R6'; clear R6'
      clear R8; have R8 := R8'; clear R8'
      clear R10; have R10 := R10'; clear R10'
      clear R16; have R16 := R16'; clear R16'
      clear R18; have R18 := R18'; clear R18'
      clear R22; have R22 := R22'; clear R22'
      clear R24; have R24 := R24'; clear R24'
      have HB' := Lib.hid (HB.out.trans (hb.mono HB.out.size)); clear HB; have HB := HB'; clear HB'
      clear hb hd
      obtain ⟨wn, rfl⟩ : ∃ z, z = wm := ⟨_, rfl⟩
      have HF := Lib.hid (f6ints_same _ _ _ _ N4 _ _ wn R8.out R10.out (by omega) (fun _ _ => rfl))
      go_wp2_with fail
      refine HF.out.mono ?_; rintro e wm ⟨rfl, d, hd⟩
      have hb : Below wn.heap.size wn wm := by rw [hd]; exact below_drewN (Below.refl _ _) d
      clear HF
      have J3' := Lib.hid (J3.out.next hb); clear J3; have J3 := J3'; clear J3'
      have J26' := Lib.hid (J26.out.next hb); clear J26; have J26 := J26'; clear J26'
      have J28' := Lib.hid (J28.out.next hb); clear J28; have J28 := J28'; clear J28'
      have J31' := Lib.hid (J31.out.next hb); clear J31; have J31 := J31'; clear J31'
      have J33' := Lib.hid (J33.out.next hb); clear J33; have J33 := J33'; clear J33'
      have J35' := Lib.hid (J35.out.next hb); clear J35; have J35 := J35'; clear J35'
      have J36' := Lib.hid (J36.out.next hb); clear J36; have J36 := J36'; clear J36'
      have R4' := Lib.hid (rdN R4.out hb)
      have R6' := Lib.hid (rdN R6.out hb)
      have R8' := Lib.hid (rdN R8.out hb)
      have R10' := Lib.hid (rdN R10.out hb)
      have R16' := Lib.hid (rdN R16.out hb)
      have R18' := Lib.hid (rdN R18.out hb)
      have R22' := Lib.hid (rdN R22.out hb)
      have R24' := Lib.hid (rdN R24.out hb)
      clear R4; have R4 := R4'; clear R4'
      clear R6; have R6 := R6'; clear R6'
      clear R8; have R8 := R8'; clear R8'
      clear R10; have R10 := R10'; clear R10'
      clear R16; have R16 := R16'; clear R16'
      clear R18; have R18 := R18'; clear R18'
      clear R22; have R22 := R22'; clear R22'
      clear R24; have R24 := R24'; clear R24'
      have HB' := Lib.hid (HB.out.trans (hb.mono HB.out.size)); clear HB; have HB := HB'; clear HB'
      clear hb hd
      obtain ⟨wn, rfl⟩ : ∃ z, z = wm := ⟨_, rfl⟩
      have HF := Lib.hid (f6ints_same _ _ _ _ L16.length _ _ wn (rd_natJ R16.out) (rd_natJ R18.out) (by omega) (fun _ _ => rfl))
      go_wp2_with fail
      refine HF.out.mono ?_; rintro e wm ⟨rfl, d, hd⟩
      have hb : Below wn.heap.size wn wm := by rw [hd]; exact below_drewN (Below.refl _ _) d
      clear HF
      have J3' := Lib.hid (J3.out.next hb); clear J3; have J3 := J3'; clear J3'
      have J26' := Lib.hid (J26.out.next hb); clear J26; have J26 := J26'; clear J26'
      have J28' := Lib.hid (J28.out.next hb); clear J28; have J28 := J28'; clear J28'
      have J31' := Lib.hid (J31.out.next hb); clear J31; have J31 := J31'; clear J31'
      have J33' := Lib.hid (J33.out.next hb); clear J33; have J33 := J33'; clear J33'
      have J35' := Lib.hid (J35.out.next hb); clear J35; have J35 := J35'; clear J35'
      have J36' := Lib.hid (J36.out.next hb); clear J36; have J36 := J36'; clear J36'
      have R4' := Lib.hid (rdN R4.out hb)
      have R6' := Lib.hid (rdN R6.out hb)
      have R8' := Lib.hid (rdN R8.out hb)
      have R10' := Lib.hid (rdN R10.out hb)
      have R16' := Lib.hid (rdN R16.out hb)
      have R18' := Lib.hid (rdN R18.out hb)
      have R22' := Lib.hid (rdN R22.out hb)
      have R24' := Lib.hid (rdN R24.out hb)
      clear R4; have R4 := R4'; clear R4'
      clear R6; have R6 := R6'; clear R6'
      clear R8; have R8 := R8'; clear R8'
      clear R10; have R10 := R10'; clear R10'
      clear R16; have R16 := R16'; clear R16'
      clear R18; have R18 := R18'; clear R18'
      clear R22; have R22 := R22'; clear R22'
      clear R24; have R24 := R24'; clear R24'
      have HB' := Lib.hid (HB.out.trans (hb.mono HB.out.size)); clear HB; have HB := HB'; clear HB'
      clear hb hd
      obtain ⟨wn, rfl⟩ : ∃ z, z = wm := ⟨_, rfl⟩
      have HF := Lib.hid (f6ints_same _ _ _ _ L22.length _ _ wn (rd_natJ R22.out) (rd_natJ R24.out) (by omega) (fun _ _ => rfl))
      go_wp2_with fail
      refine HF.out.mono ?_; rintro e wm ⟨rfl, d, hd⟩
      have hb : Below wn.heap.size wn wm := by rw [hd]; exact below_drewN (Below.refl _ _) d
      clear HF
      have J3' := Lib.hid (J3.out.next hb); clear J3; have J3 := J3'; clear J3'
      have J26' := Lib.hid (J26.out.next hb); clear J26; have J26 := J26'; clear J26'
      have J28' := Lib.hid (J28.out.next hb); clear J28; have J28 := J28'; clear J28'
      have J31' := Lib.hid (J31.out.next hb); clear J31; have J31 := J31'; clear J31'
      have J33' := Lib.hid (J33.out.next hb); clear J33; have J33 := J33'; clear J33'
      have J35' := Lib.hid (J35.out.next hb); clear J35; have J35 := J35'; clear J35'
      have J36' := Lib.hid (J36.out.next hb); clear J36; have J36 := J36'; clear J36'
      have R4' := Lib.hid (rdN R4.out hb)
      have R6' := Lib.hid (rdN R6.out hb)
      have R8' := Lib.hid (rdN R8.out hb)
      have R10' := Lib.hid (rdN R10.out hb)
      have R16' := Lib.hid (rdN R16.out hb)
      have R18' := Lib.hid (rdN R18.out hb)
      have R22' := Lib.hid (rdN R22.out hb)
      have R24' := Lib.hid (rdN R24.out hb)
      clear R4; have R4 := R4'; clear R4'
      clear R6; have R6 := R6'; clear R6'
      clear R8; have R8 := R8'; clear R8'
      clear R10; have R10 := R10'; clear R10'
      clear R16; have R16 := R16'; clear R16'
      clear R18; have R18 := R18'; clear R18'
      clear R22; have R22 := R22'; clear R22'
      clear R24; have R24 := R24'; clear R24'
      have HB' := Lib.hid (HB.out.trans (hb.mono HB.out.size)); clear HB; have HB := HB'; clear HB'
      clear hb hd
      obtain ⟨wn, rfl⟩ : ∃ z, z = wm := ⟨_, rfl⟩
      clear R6
      clear R10
      clear R16
      clear R18
      clear R22
      clear R24
      go_wp2_with fail
      refine (HXS.out _ J26.out).mono ?_; rintro e wn ⟨rfl, hb⟩
      have J3' := Lib.hid (J3.out.next hb); clear J3; have J3 := J3'; clear J3'
      have J26' := Lib.hid (J26.out.next hb); clear J26; have J26 := J26'; clear J26'
      have J28' := Lib.hid (J28.out.next hb); clear J28; have J28 := J28'; clear J28'
      have J31' := Lib.hid (J31.out.next hb); clear J31; have J31 := J31'; clear J31'
      have J33' := Lib.hid (J33.out.next hb); clear J33; have J33 := J33'; clear J33'
      have J35' := Lib.hid (J35.out.next hb); clear J35; have J35 := J35'; clear J35'
      have J36' := Lib.hid (J36.out.next hb); clear J36; have J36 := J36'; clear J36'
      have R4' := Lib.hid (rdN R4.out hb)
      have R8' := Lib.hid (rdN R8.out hb)
      clear R4; have R4 := R4'; clear R4'
      clear R8; have R8 := R8'; clear R8'
      have HB' := Lib.hid (HB.out.trans (hb.mono HB.out.size)); clear HB; have HB := HB'; clear HB'
      clear hb HXS
      have HF := Lib.hid (by have h := SameJS_any wn.heap.size wn.heap.size (.slice A28 xs26.length c28) (.slice A26 xs26.length c26) xs26 xs26 wn J28.out J26.out (Nat.le_refl _) (Nat.le_refl _) (by omega) Hs26.out; rwa [decide_eq_true rfl] at h : Calls Tryd.prog 47 #[.slice A28 xs26.length c28, .slice A26 xs26.length c26] wn fun e w' => e = .returned (.bool true) ∧ Below wn.heap.size wn w')
      go_wp2_with fail
      refine (HF.out).mono ?_; rintro e wn ⟨rfl, hb⟩
      have J3' := Lib.hid (J3.out.next hb); clear J3; have J3 := J3'; clear J3'
      have J26' := Lib.hid (J26.out.next hb); clear J26; have J26 := J26'; clear J26'
      have J28' := Lib.hid (J28.out.next hb); clear J28; have J28 := J28'; clear J28'
      have J31' := Lib.hid (J31.out.next hb); clear J31; have J31 := J31'; clear J31'
      have J33' := Lib.hid (J33.out.next hb); clear J33; have J33 := J33'; clear J33'
      have J35' := Lib.hid (J35.out.next hb); clear J35; have J35 := J35'; clear J35'
      have J36' := Lib.hid (J36.out.next hb); clear J36; have J36 := J36'; clear J36'
      have R4' := Lib.hid (rdN R4.out hb)
      have R8' := Lib.hid (rdN R8.out hb)
      clear R4; have R4 := R4'; clear R4'
      clear R8; have R8 := R8'; clear R8'
      have HB' := Lib.hid (HB.out.trans (hb.mono HB.out.size)); clear HB; have HB := HB'; clear HB'
      clear hb HF
      clear J26
      clear J28
      clear Hs26 Hs28 hl26
      have HF := Lib.hid (by have h := SameJS_any wn.heap.size wn.heap.size (.slice A31 xs31.length c31) (.slice A33 xs31.length c33) xs31 xs31 wn J31.out J33.out (Nat.le_refl _) (Nat.le_refl _) (by omega) Hs31.out; rwa [decide_eq_true rfl] at h : Calls Tryd.prog 47 #[.slice A31 xs31.length c31, .slice A33 xs31.length c33] wn fun e w' => e = .returned (.bool true) ∧ Below wn.heap.size wn w')
      go_wp2_with fail
      refine (HF.out).mono ?_; rintro e wn ⟨rfl, hb⟩
      have J3' := Lib.hid (J3.out.next hb); clear J3; have J3 := J3'; clear J3'
      have J31' := Lib.hid (J31.out.next hb); clear J31; have J31 := J31'; clear J31'
      have J33' := Lib.hid (J33.out.next hb); clear J33; have J33 := J33'; clear J33'
      have J35' := Lib.hid (J35.out.next hb); clear J35; have J35 := J35'; clear J35'
      have J36' := Lib.hid (J36.out.next hb); clear J36; have J36 := J36'; clear J36'
      have R4' := Lib.hid (rdN R4.out hb)
      have R8' := Lib.hid (rdN R8.out hb)
      clear R4; have R4 := R4'; clear R4'
      clear R8; have R8 := R8'; clear R8'
      have HB' := Lib.hid (HB.out.trans (hb.mono HB.out.size)); clear HB; have HB := HB'; clear HB'
      clear hb HF
      clear J31
      clear J33
      clear hl31 Hs31
      go_wp2_with fail
      refine (HQI.out wn J35.out J36.out).mono ?_; rintro e wn ⟨rfl, hb⟩
      have J3' := Lib.hid (J3.out.next hb); clear J3; have J3 := J3'; clear J3'
      have J35' := Lib.hid (J35.out.next hb); clear J35; have J35 := J35'; clear J35'
      have J36' := Lib.hid (J36.out.next hb); clear J36; have J36 := J36'; clear J36'
      have R4' := Lib.hid (rdN R4.out hb)
      have R8' := Lib.hid (rdN R8.out hb)
      clear R4; have R4 := R4'; clear R4'
      clear R8; have R8 := R8'; clear R8'
      have HB' := Lib.hid (HB.out.trans (hb.mono HB.out.size)); clear HB; have HB := HB'; clear HB'
      clear hb HQI
      go_wp2_with fail
      refine (HQS.out wn J35.out J36.out).mono ?_; rintro e wn ⟨rfl, hb⟩
      have J3' := Lib.hid (J3.out.next hb); clear J3; have J3 := J3'; clear J3'
      have J35' := Lib.hid (J35.out.next hb); clear J35; have J35 := J35'; clear J35'
      have J36' := Lib.hid (J36.out.next hb); clear J36; have J36 := J36'; clear J36'
      have R4' := Lib.hid (rdN R4.out hb)
      have R8' := Lib.hid (rdN R8.out hb)
      clear R4; have R4 := R4'; clear R4'
      clear R8; have R8 := R8'; clear R8'
      have HB' := Lib.hid (HB.out.trans (hb.mono HB.out.size)); clear HB; have HB := HB'; clear HB'
      clear hb HQS
      clear J35
      clear J36
      clear hl35 Hs35
      go_wp2_with fail
      refine (HVI.out _ J3.out).mono ?_; rintro e wn ⟨rfl, hb⟩
      have J3' := Lib.hid (J3.out.next hb); clear J3; have J3 := J3'; clear J3'
      have R4' := Lib.hid (rdN R4.out hb)
      have R8' := Lib.hid (rdN R8.out hb)
      clear R4; have R4 := R4'; clear R4'
      clear R8; have R8 := R8'; clear R8'
      have HB' := Lib.hid (HB.out.trans (hb.mono HB.out.size)); clear HB; have HB := HB'; clear HB'
      clear hb HVI
      go_wp2_with fail
      refine (HVS.out _ J3.out).mono ?_; rintro e wn ⟨rfl, hb⟩
      have J3' := Lib.hid (J3.out.next hb); clear J3; have J3 := J3'; clear J3'
      have R4' := Lib.hid (rdN R4.out hb)
      have R8' := Lib.hid (rdN R8.out hb)
      clear R4; have R4 := R4'; clear R4'
      clear R8; have R8 := R8'; clear R8'
      have HB' := Lib.hid (HB.out.trans (hb.mono HB.out.size)); clear HB; have HB := HB'; clear HB'
      clear hb HVS
      by_cases hc5 : C5 = 0
      · as_aux_lemma =>
          obtain ⟨hN4, hL16, hday, hnd, hpos⟩ := HLaw.out hc5
          subst hc5 hN4 hL16
          have HDay := Lib.hid hday
          have HNd := Lib.hid hnd
          have HPos := Lib.hid hpos
          clear hday hnd hpos HLaw
          go_wp2_with fail
          go_loopw [37, 38] (fun n i wr => ∃ k : Nat, k ≤ xs3.length ∧ i = .int .i64 (k : Int) ∧ n = .int .i64 ((crL xs3 k).length : Int) ∧ Below wn.heap.size wn wr) (fun _ i _ => xs3.length - (intOf i).toNat)
          case atStart => exact ⟨0, Nat.zero_le _, rfl, rfl, Below.refl _ _⟩
          case round =>
            obtain ⟨k, hk, rfl, rfl, hbr⟩ := hrel
            by_cases hlt : k < xs3.length
            · have hlt' : (k : Int) < (xs3.length : Int) := by omega
              obtain ⟨b4, o4, hA4, _, hc4⟩ := rdF_all (R4.out.below hbr) (show 0 < xs3.length by omega)
              subst hA4
              obtain ⟨b8, o8, hA8, _, hc8⟩ := rdF_all (R8.out.below hbr) (show 0 < xs3.length by omega)
              subst hA8
              have t4 := hc4 k hlt
              have t8 := hc8 k hlt
              obtain ⟨b3, o3, A9, c9, hA3, hat⟩ := (J3.out.below hbr).at k hlt
              subst hA3
              have t3 := hat.c1
              have hfac := HDay.out k hlt
              have hws : IntKind.i64.wrap (late xs3 k + (jg xs3 k).days) = late xs3 k + (jg xs3 k).days := IntWalk.i64_in _ (by omega)
              have hg1 : decide (late xs3 k < erl xs3 k) = false := decide_eq_false (by omega)
              have hg2 : decide (D12 < late xs3 k + (jg xs3 k).days) = false := decide_eq_false (by omega)
              have hg1' : ¬ (late xs3 k < erl xs3 k) := by omega
              have hg2' : ¬ (D12 < late xs3 k + (jg xs3 k).days) := by omega
              have hln := crL_len xs3 k
              have Hsz := Lib.hid (show (jg xs3 k).needs.length ≤ 1048576 from (Hs3.out k hlt).2)
              have hst : (((crL xs3 k).length : Int) + (if erl xs3 k = late xs3 k then 1 else 0)) = ((crL xs3 (k + 1)).length : Int) := by
                by_cases he : erl xs3 k = late xs3 k
                · rw [if_pos he, crL_yes he, List.length_append]; simp
                · rw [if_neg he, crL_no he]; omega
              have HX := Lib.hid (fun wy (hy : Below wn.heap.size wn wy) => (J3.out.below hy).at k hlt)
              have H4 := Lib.hid (fun wy (hy : Below wn.heap.size wn wy) => rdF_all (R4.out.below hy) (show 0 < xs3.length by omega))
              have H8 := Lib.hid (fun wy (hy : Below wn.heap.size wn wy) => rdF_all (R8.out.below hy) (show 0 < xs3.length by omega))
              have HJ := Lib.hid (fun wy (hy : Below wn.heap.size wn wy) (m : Nat) (hm : m < xs3.length) => (J3.out.below hy).at m hm)
              have Hbr := Lib.hid hbr
              have HNk := Lib.hid (HNd.out k hlt)
              have Hlt := Lib.hid hlt
              have HDm := Lib.hid (fun m (hm : m < k) => HDay.out m (by omega))
              obtain ⟨nl, hnl⟩ : ∃ z, (jg xs3 k).needs.length = z := ⟨_, rfl⟩
              have Hnl := Lib.hid hnl
              rw [hnl] at Hsz
              have Hst := Lib.hid hst
              clear hc4 hc8 hat hbr hnl hst
              obtain ⟨q2, hq2⟩ : ∃ z, (crL xs3 (k + 1)).length = z := ⟨_, rfl⟩
              have Hq2 := Lib.hid hq2
              rw [hq2] at Hst
              clear hq2 HDay HNd HPos
              have hsn := Hsz.out
              by_cases he : erl xs3 k = late xs3 k
              · have hq := Hst.out
                rw [if_pos he] at hq
                generalize (crL xs3 k).length = q at *
                have hqw : IntKind.i64.wrap ((q : Int) + 1) = (q2 : Int) := by rw [hq]; exact IntWalk.i64_in _ (by omega)
                have Hq := Lib.hid hq
                clear hq Hst
                rw [he] at t4
                have hg1 : decide (late xs3 k < late xs3 k) = false := decide_eq_false (by omega)
                have hg1' : ¬ (late xs3 k < late xs3 k) := by omega
                obtain ⟨wb, rfl⟩ : ∃ z, z = wr := ⟨_, rfl⟩
                obtain ⟨lk, hlk⟩ : ∃ z, late xs3 k = z := ⟨_, rfl⟩
                have Hlk := Lib.hid hlk
                rw [hlk] at t4 t8 hws hg1 hg1' hg2 hg2'
                clear hlk hfac he
                obtain ⟨dk, hdk⟩ : ∃ z, (jg xs3 k).days = z := ⟨_, rfl⟩
                rw [hdk] at t3 hws hg2 hg2'
                clear hdk
                go_wp2_with fail
                go_quiet (fail)
                go_wp2_with fail
                go_quiet (fail)
                go_wp2_with fail
                as_aux_lemma =>
                  go_loopw [39] (fun j wy => ∃ j' : Nat, j' ≤ nl ∧ j = .int .i64 (j' : Int) ∧ Below wn.heap.size wn wy) (fun j _ => nl - (intOf j).toNat)
                  case atStart => exact ⟨0, Nat.zero_le _, rfl, by first | exact below_drewN (below_drewN Hbr.out _) _ | exact below_drewN Hbr.out _⟩
                  case round =>
                    obtain ⟨j, hj, rfl, hby⟩ := hrel
                    have Hby := Lib.hid hby
                    obtain ⟨b3', o3', A9', c9', hA3', hat2⟩ := HX.out _ hby
                    obtain ⟨rfl, rfl⟩ := adr_inj hA3'
                    have y3 := hat2.c3
                    have hnds := hat2.needs
                    rw [Hnl.out] at y3 hnds
                    by_cases hjl : j < nl
                    · have hjl' : (j : Int) < (nl : Int) := by omega
                      have hid : j < (jg xs3 k).needs.length := by rw [Hnl.out]; exact hjl
                      obtain ⟨b7, o7, hA7, _, hcc⟩ := rdI_at hnds Hnl.out (by omega)
                      subst hA7
                      have q1 := hcc j hid
                      obtain ⟨p, hp, hne, hf1, hf2⟩ := HNk.out j hid
                      rw [hne] at q1
                      have hlt2 := Hlt.out
                      have hpl : (p : Int) < (xs3.length : Int) := by omega
                      obtain ⟨b4', o4', hA4', _, hc4'⟩ := H4.out _ hby
                      obtain ⟨rfl, rfl⟩ := adr_inj hA4'
                      obtain ⟨b8', o8', hA8', _, hc8'⟩ := H8.out _ hby
                      obtain ⟨rfl, rfl⟩ := adr_inj hA8'
                      obtain ⟨b5, o5, A5x, c5x, hA5, hat5⟩ := HJ.out _ hby p (by omega)
                      obtain ⟨rfl, rfl⟩ := adr_inj hA5
                      have u1 := hc4' p (by omega)
                      have u2 := hc4' k hlt2
                      have u3 := hc8' p (by omega)
                      have u4 := hc8' k hlt2
                      have u5 := hat5.c1
                      obtain ⟨h1, h2, h3, h4, h5, h6⟩ := HDm.out p (by omega)
                      have hw1 : IntKind.i64.wrap (erl xs3 p + (jg xs3 p).days) = erl xs3 p + (jg xs3 p).days := IntWalk.i64_in _ (by omega)
                      have hw2 : IntKind.i64.wrap (late xs3 p + (jg xs3 p).days) = late xs3 p + (jg xs3 p).days := IntWalk.i64_in _ (by omega)
                      have hd1 : decide (erl xs3 k < erl xs3 p + (jg xs3 p).days) = false := decide_eq_false (by omega)
                      have hd2 : decide (late xs3 k < late xs3 p + (jg xs3 p).days) = false := decide_eq_false (by omega)
                      have hd1' : ¬ (erl xs3 k < erl xs3 p + (jg xs3 p).days) := by omega
                      have hd2' : ¬ (late xs3 k < late xs3 p + (jg xs3 p).days) := by omega
                      clear hcc hc4' hc8' hat2 hat5 hnds hby hne hf1 hf2 h1 h2 h3 h4 h5 h6 hid hlt2
                      generalize erl xs3 p = e1 at *
                      generalize late xs3 p = l1 at *
                      generalize (jg xs3 p).days = d1 at *
                      generalize erl xs3 k = e2 at *
                      generalize late xs3 k = l2 at *
                      go_wp2_with fail
                      go_quiet (fail)
                      have Hby2 := Lib.hid (below_drewN Hby.out nq)
                      go_wp2_with fail
                      go_roundw
                      case rel => exact ⟨j + 1, by omega, by go_num, Hby2.out⟩
                      case measure => first | (simp [intOf]; done) | (simp [intOf]; omega)
                    · obtain rfl : nl = j := by omega
                      have hjl' : ¬ ((nl : Int) < (nl : Int)) := by omega
                      clear hat2 hnds hby
                      go_wp2_with fail
                      go_roundw
                      case rel => exact ⟨k + 1, by omega, by go_num, by rw [Hq2.out], Hby.out⟩
                      case measure => first | (simp [intOf]; done) | (simp [intOf]; omega)
              · have heb : (erl xs3 k == late xs3 k) = false := by simp [he]
                have hq := Hst.out
                rw [if_neg he] at hq
                generalize (crL xs3 k).length = q at *
                have hqe : q = q2 := by omega
                subst hqe
                clear hq Hst hfac
                obtain ⟨wb, rfl⟩ : ∃ z, z = wr := ⟨_, rfl⟩
                obtain ⟨ek, hek⟩ : ∃ z, erl xs3 k = z := ⟨_, rfl⟩
                obtain ⟨lk, hlk⟩ : ∃ z, late xs3 k = z := ⟨_, rfl⟩
                rw [hek] at t4 hg1 hg1' heb
                rw [hlk] at t8 hws hg1 hg1' hg2 hg2' heb
                clear hek hlk he
                obtain ⟨dk, hdk⟩ : ∃ z, (jg xs3 k).days = z := ⟨_, rfl⟩
                rw [hdk] at t3 hws hg2 hg2'
                clear hdk
                go_wp2_with fail
                go_quiet (fail)
                go_wp2_with fail
                go_quiet (fail)
                go_wp2_with fail
                as_aux_lemma =>
                  go_loopw [39] (fun j wy => ∃ j' : Nat, j' ≤ nl ∧ j = .int .i64 (j' : Int) ∧ Below wn.heap.size wn wy) (fun j _ => nl - (intOf j).toNat)
                  case atStart => exact ⟨0, Nat.zero_le _, rfl, by first | exact below_drewN (below_drewN Hbr.out _) _ | exact below_drewN Hbr.out _⟩
                  case round =>
                    obtain ⟨j, hj, rfl, hby⟩ := hrel
                    have Hby := Lib.hid hby
                    obtain ⟨b3', o3', A9', c9', hA3', hat2⟩ := HX.out _ hby
                    obtain ⟨rfl, rfl⟩ := adr_inj hA3'
                    have y3 := hat2.c3
                    have hnds := hat2.needs
                    rw [Hnl.out] at y3 hnds
                    by_cases hjl : j < nl
                    · have hjl' : (j : Int) < (nl : Int) := by omega
                      have hid : j < (jg xs3 k).needs.length := by rw [Hnl.out]; exact hjl
                      obtain ⟨b7, o7, hA7, _, hcc⟩ := rdI_at hnds Hnl.out (by omega)
                      subst hA7
                      have q1 := hcc j hid
                      obtain ⟨p, hp, hne, hf1, hf2⟩ := HNk.out j hid
                      rw [hne] at q1
                      have hlt2 := Hlt.out
                      have hpl : (p : Int) < (xs3.length : Int) := by omega
                      obtain ⟨b4', o4', hA4', _, hc4'⟩ := H4.out _ hby
                      obtain ⟨rfl, rfl⟩ := adr_inj hA4'
                      obtain ⟨b8', o8', hA8', _, hc8'⟩ := H8.out _ hby
                      obtain ⟨rfl, rfl⟩ := adr_inj hA8'
                      obtain ⟨b5, o5, A5x, c5x, hA5, hat5⟩ := HJ.out _ hby p (by omega)
                      obtain ⟨rfl, rfl⟩ := adr_inj hA5
                      have u1 := hc4' p (by omega)
                      have u2 := hc4' k hlt2
                      have u3 := hc8' p (by omega)
                      have u4 := hc8' k hlt2
                      have u5 := hat5.c1
                      obtain ⟨h1, h2, h3, h4, h5, h6⟩ := HDm.out p (by omega)
                      have hw1 : IntKind.i64.wrap (erl xs3 p + (jg xs3 p).days) = erl xs3 p + (jg xs3 p).days := IntWalk.i64_in _ (by omega)
                      have hw2 : IntKind.i64.wrap (late xs3 p + (jg xs3 p).days) = late xs3 p + (jg xs3 p).days := IntWalk.i64_in _ (by omega)
                      have hd1 : decide (erl xs3 k < erl xs3 p + (jg xs3 p).days) = false := decide_eq_false (by omega)
                      have hd2 : decide (late xs3 k < late xs3 p + (jg xs3 p).days) = false := decide_eq_false (by omega)
                      have hd1' : ¬ (erl xs3 k < erl xs3 p + (jg xs3 p).days) := by omega
                      have hd2' : ¬ (late xs3 k < late xs3 p + (jg xs3 p).days) := by omega
                      clear hcc hc4' hc8' hat2 hat5 hnds hby hne hf1 hf2 h1 h2 h3 h4 h5 h6 hid hlt2
                      generalize erl xs3 p = e1 at *
                      generalize late xs3 p = l1 at *
                      generalize (jg xs3 p).days = d1 at *
                      generalize erl xs3 k = e2 at *
                      generalize late xs3 k = l2 at *
                      go_wp2_with fail
                      go_quiet (fail)
                      have Hby2 := Lib.hid (below_drewN Hby.out nq)
                      go_wp2_with fail
                      go_roundw
                      case rel => exact ⟨j + 1, by omega, by go_num, Hby2.out⟩
                      case measure => first | (simp [intOf]; done) | (simp [intOf]; omega)
                    · obtain rfl : nl = j := by omega
                      have hjl' : ¬ ((nl : Int) < (nl : Int)) := by omega
                      clear hat2 hnds hby
                      go_wp2_with fail
                      go_roundw
                      case rel => exact ⟨k + 1, by omega, by go_num, by rw [Hq2.out], Hby.out⟩
                      case measure => first | (simp [intOf]; done) | (simp [intOf]; omega)
            · obtain rfl : k = xs3.length := by omega
              have hlt' : ¬ ((xs3.length : Int) < (xs3.length : Int)) := by omega
              have Hz := Lib.hid (HB.out.trans (hbr.mono HB.out.size))
              clear hbr
              by_cases h0 : xs3.length = 0
              · have h0' : ((xs3.length : Int) == 0) = true := by rw [beq_iff_eq]; omega
                generalize (crL xs3 xs3.length).length = q at *
                go_wp2_with fail
                go_ret
                exact ⟨rfl, Hz.out⟩
              · have h0' : ((xs3.length : Int) == 0) = false := by rw [beq_eq_false_iff_ne]; omega
                have hq := HPos.out (by omega)
                generalize (crL xs3 xs3.length).length = q at *
                have hq' : (0 : Int) < (q : Int) := by omega
                go_wp2_with fail
                go_ret
                exact ⟨rfl, Hz.out⟩
      · have hc5' : (C5 == 0) = false := by simp [hc5]
        have hc5'' : (C5 != 0) = true := by simp [hc5]
        clear HLaw hc5
        go_wp2_with fail
        go_ret
        exact ⟨rfl, HB.out⟩
end Go.Proofs.YtepgfcjfdnakbaaDoor
