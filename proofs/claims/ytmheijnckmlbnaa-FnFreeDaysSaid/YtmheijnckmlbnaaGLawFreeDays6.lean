/- Merged texts: Dl3, Fd6. -/
import Derived.Test.YtmheijnckmlbnaaGLawFreeDays1
import Derived.Test.YtmheijnckmlbnaaGLawFreeDays4
import Derived.Test.YtmheijnckmlbnaaGLawFreeDays5
/- Lists of loans are compared (SameLoans). -/
namespace Go.Proofs.Ytmheijnckmlbnaa
open Go.RowKit Go.Joins

theorem take_eqL {xs ys : List Ln} (k : Nat) (hx : k < xs.length) (hy : k < ys.length) (h0 : xs.take k = ys.take k) (h : xs[k] = ys[k]) : xs.take (k + 1) = ys.take (k + 1) := by
  rw [List.take_succ_eq_append_getElem hx, List.take_succ_eq_append_getElem hy, h0, h]
theorem ne_ofL {xs ys : List Ln} (k : Nat) (hx : k < xs.length) (hy : k < ys.length) (h : xs[k] ≠ ys[k]) : decide (xs = ys) = false :=
  decide_eq_false fun e => h (by subst e; rfl)

set_option maxRecDepth 100000 in
set_option maxHeartbeats 1600000 in
theorem SameLS_any (B1 B2 : Nat) (v1 v2 : Value) (xs ys : List Ln) (w : World) (h1 : RdL w B1 v1 xs) (h2 : RdL w B2 v2 ys) (hx : xs.length ≤ 1048576) :
    Calls Try.prog 19 #[v1, v2] w fun e w' => e = .returned (.bool (decide (xs = ys))) ∧ ∃ n, w' = w.drewN n := by
  have H1 := Lib.hid h1
  have H2 := Lib.hid h2
  obtain ⟨A1, c1, rfl⟩ := h1.slice
  obtain ⟨A2, c2, rfl⟩ := h2.slice
  clear h1 h2
  by_cases hl : xs.length = ys.length
  · have hl' : ((xs.length : Int) == (ys.length : Int)) = true := by rw [beq_iff_eq]; omega
    have hl2 : ((xs.length : Int) != (ys.length : Int)) = false := by simp [bne, hl']
    have Hl := Lib.hid hl; clear hl
    go_enter Try.func19, Try.ntmps19
    go_wp2_with fail
    go_loopw [5] (fun i wr => ∃ k : Nat, k ≤ xs.length ∧ i = .int .i64 (k : Int) ∧ xs.take k = ys.take k ∧ ∃ n, wr = w.drewN n) (fun i _ => xs.length - (intOf i).toNat)
    case atStart => exact ⟨0, Nat.zero_le _, rfl, rfl, 0, rfl⟩
    case round =>
      obtain ⟨k, hk, rfl, htk, n0, rfl⟩ := hrel
      have Htk := Lib.hid htk
      clear htk
      by_cases hlt : k < xs.length
      · have hlt' : (k : Int) < (xs.length : Int) := by omega
        have hlt2 : (k : Int) < (ys.length : Int) := by have := Hl.out; omega
        have hky : k < ys.length := by have := Hl.out; omega
        obtain ⟨b1, o1, hA1, hE1⟩ := H1.out.at k hlt
        obtain ⟨b2, o2, hA2, hE2⟩ := H2.out.at k hky
        subst hA1 hA2
        have hkz : (0 : Int) ≤ (k : Int) := by omega
        have Hst := Lib.hid (fun h => take_eqL (xs := xs) (ys := ys) k hlt hky Htk.out h)
        have Hbad := Lib.hid (fun h => ne_ofL (xs := xs) (ys := ys) k hlt hky h)
        generalize xs[k] = x at *
        generalize ys[k] = y at *
        obtain ⟨a, b, f, t⟩ := x
        obtain ⟨a2, b2', f2, t2⟩ := y
        obtain ⟨_, p0, p1, p2, p3⟩ := hE1
        obtain ⟨_, q0, q1, q2, q3⟩ := hE2
        dsimp only at p0 p1 p2 p3 q0 q1 q2 q3
        by_cases he : (⟨a, b, f, t⟩ : Ln) = ⟨a2, b2', f2, t2⟩
        · have Hs2 := Lib.hid (Hst.out he)
          injection he with e1 e2 e3 e4
          subst e1 e2 e3 e4
          clear Hst Hbad
          go_wp2_with fail
          go_quiet (fail)
          go_wp2_with fail
          go_roundw
          case rel => exact ⟨k + 1, by omega, by go_num, Hs2.out, _, rfl⟩
          case measure => simp [intOf]; omega
        · have Hb2 := Lib.hid (Hbad.out he)
          clear Hst Hbad
          by_cases h1 : a = a2
          · subst h1
            by_cases h2 : b = b2'
            · subst h2
              by_cases h3 : f = f2
              · subst h3
                have h4 : (t == t2) = false := beq_eq_false_iff_ne.2 fun h => he (by rw [h])
                go_wp2_with fail
                go_quiet (fail)
                go_wp2_with fail
                go_ret
                exact ⟨by rw [Hb2.out]; rfl, _, World.drewN_drewN _ _ _⟩
              · have h4 : (f == f2) = false := beq_eq_false_iff_ne.2 h3
                go_wp2_with fail
                go_quiet (fail)
                go_wp2_with fail
                go_ret
                exact ⟨by rw [Hb2.out]; rfl, _, World.drewN_drewN _ _ _⟩
            · have h4 : (b.toList == b2'.toList) = false := beq_eq_false_iff_ne.2 fun h => h2 (ba_inj h)
              go_wp2_with fail
              go_quiet (fail)
              go_wp2_with fail
              go_ret
              exact ⟨by rw [Hb2.out]; rfl, _, World.drewN_drewN _ _ _⟩
          · have h4 : (a.toList == a2.toList) = false := beq_eq_false_iff_ne.2 fun h => h1 (ba_inj h)
            go_wp2_with fail
            go_quiet (fail)
            go_wp2_with fail
            go_ret
            exact ⟨by rw [Hb2.out]; rfl, _, World.drewN_drewN _ _ _⟩
      · have hkk : k = xs.length := by omega
        subst hkk
        have hlt' : (xs.length : Int) ≤ (xs.length : Int) := Int.le_refl _
        have he : xs = ys := by
          have h := Htk.out
          have h3 := Hl.out
          rw [List.take_length, h3, List.take_length] at h
          exact h
        have He := Lib.hid (decide_eq_true he)
        clear he
        go_wp2_with fail
        go_ret
        exact ⟨by rw [He.out]; rfl, n0, rfl⟩
  · have hl' : ((xs.length : Int) == (ys.length : Int)) = false := by rw [beq_eq_false_iff_ne]; omega
    have hl2 : ((xs.length : Int) != (ys.length : Int)) = true := by simp [bne, hl']
    have He := Lib.hid (show decide (xs = ys) = false from decide_eq_false (fun h => hl (by rw [h])))
    clear hl
    go_enter Try.func19, Try.ntmps19
    go_wp2_with fail
    go_ret
    exact ⟨by rw [He.out]; rfl, 0, rfl⟩
end Go.Proofs.Ytmheijnckmlbnaa
/- The law FnFreeDays: the walk. -/
namespace Go.Proofs.Ytmheijnckmlbnaa
open Go.RowKit Go.Joins
theorem sl_of_ownF {w : World} {base n size : Nat} {e : TypeId} {v : Value} {cs : List Value} (h : w.ownsRow base e size v n cs) : ∃ A c, v = .slice A n c := by
  obtain ⟨_, A, c, hv, _⟩ := Rd.of_own h
  exact ⟨A, c, hv⟩
theorem undef_noF {b : Bool} (h : some undef = some (Value.bool b)) : False := by
  injection h with h
  cases h
theorem addC_in (xs : List Ln) (x : Ln) : addC xs x = 0 ∨ addC xs x = 1 ∨ addC xs x = 2 ∨ addC xs x = 9 ∨ addC xs x = 5 := by
  unfold addC
  split
  · exact .inr (.inl rfl)
  · split
    · exact .inr (.inr (.inl rfl))
    · split
      · exact .inr (.inr (.inr (.inl rfl)))
      · split
        · exact .inr (.inr (.inr (.inr rfl)))
        · exact .inl rfl
theorem busM_law {xs : List Ln} (h : busC xs = 0) (d : Int) : (cntL xs d : Int) ≤ busM xs ∧ loansOk xs = true := by
  rcases bus_cases xs with ⟨_, h2, _⟩ | ⟨_, _, h2, _⟩ | ⟨h1, _, _, _, h5⟩
  · rw [h] at h2; cases h2
  · rw [h] at h2; cases h2
  · rw [h5]; exact ⟨bus_law d, h1⟩
set_option maxRecDepth 100000 in
set_option maxHeartbeats 12800000 in
theorem walkFnFreeDays {W : World} (v : Value) (bs : List UInt8) (h : Rd W W.heap.size v bs.length 1 (bs.map byV)) (_hl : bs.length ≤ maxLen) :
    Calls Try.prog 3 #[v] W fun e w' => e = .returned (.bool true) ∧ Below W.heap.size W w' := by
  have HB := Lib.hid (Below.refl W.heap.size W)
  have HC := Lib.hid h
  have HG := Lib.hid (f6big_l _ _ v _ W h)
  obtain ⟨_, A0, c0, rfl, _⟩ := h
  by_cases hbig : 4096 < bs.length
  · rw [decide_eq_true hbig] at HG
    clear hbig
    go_enter Try.func3, Try.ntmps3
    go_wp2_with fail
    refine HG.out.mono ?_; rintro e w1 ⟨rfl, rfl⟩
    go_wp2_with fail
    go_ret
    exact ⟨rfl, HB.out⟩
  rw [decide_eq_false hbig] at HG
  clear hbig
  go_enter Try.func3, Try.ntmps3
  go_wp2_with fail
  refine HG.out.mono ?_; rintro e w1 ⟨rfl, rfl⟩
  clear HG
  go_wp2_with fail
  refine (drawFF_any _ _ bs _ (HC.out.below HB.out) HB.out.size).mono ?_; rintro e wn ⟨v3, xs, s, d, n, rfl, hn, hs16⟩
  have RL0 := Lib.hid (Rd.of_own hn.own)
  have HB' := Lib.hid (HB.out.trans (hn.bel.mono HB.out.size)); clear HB; have HB := HB'; clear HB'
  have RL := RL0; clear RL0
  obtain ⟨b3, c3, rfl⟩ := hn.nn
  have Hc3 := Lib.hid (own_cap3 hn.own)
  have hl3 := hn.len
  have Hsm3 := Lib.hid (show ∀ x ∈ xs, smL x from fun x hx => (hn.sm x hx).sm)
  clear hn
  have hm3 : xs.length ≤ 1048576 := by omega
  have HFI := Lib.hid (fun wx (hx : RdL wx wx.heap.size (.slice (some ⟨b3, 0, none⟩) xs.length c3) xs) => FreeI_any _ _ xs s d n wx hx (Nat.le_refl _) hm3 Hsm3.out (fun A n c' e => by injection e with _ e2 e3; exact ⟨by have := Hc3.out.1; omega, by have := Hc3.out.2; omega⟩))
  have HFS := Lib.hid (fun wx (hx : RdL wx wx.heap.size (.slice (some ⟨b3, 0, none⟩) xs.length c3) xs) => FreeS_any _ _ xs s d n wx hx hm3 Hsm3.out)
  have HK := Lib.hid (show freeC xs s d n = 0 → (d ≤ freeA xs s d n ∧ freeA xs s d n = freeF xs s d n) from fun h => by have h2 : freeA xs s d n = freeF xs s d n := (by unfold freeA; rw [if_pos h]); rw [h2]; exact ⟨(free_law (OkP.of (freeC_0 h).1) s d n).1, rfl⟩)
  have Hask := Lib.hid (fun h k h0 h1 => free_ask (xs := xs) (e := s) (d := d) (n := n) h k h0 h1)
  have Hadd := Lib.hid (fun h => free_add (xs := xs) (e := s) (d := d) (n := n) h)
  have HC0 := Lib.hid (fun h => freeC_0 (xs := xs) (e := s) (d := d) (n := n) h)
  generalize freeC xs s d n = C1 at *
  generalize freeA xs s d n = AT at *
  generalize freeF xs s d n = F at *
  go_wp2_with fail
  refine (HFI.out _ RL.out).mono ?_; rintro e wn ⟨rfl, hb⟩
  have RL' := Lib.hid (rdNL RL.out hb)
  clear RL; have RL := RL'; clear RL'
  have HB' := Lib.hid (HB.out.trans (hb.mono HB.out.size)); clear HB; have HB := HB'; clear HB'
  clear hb HFI
  go_wp2_with fail
  refine (HFS.out _ RL.out).mono ?_; rintro e wn ⟨rfl, n1, hw⟩
  have hb := below_eqL hw
  clear hw
  have RL' := Lib.hid (rdNL RL.out hb)
  clear RL; have RL := RL'; clear RL'
  have HB' := Lib.hid (HB.out.trans (hb.mono HB.out.size)); clear HB; have HB := HB'; clear HB'
  clear hb
  clear HFS
  go_wp2_with fail
  refine (drawBD_any _ _ bs _ (HC.out.below HB.out) HB.out.size).mono ?_; rintro e wn ⟨v6, ys, rfl, hn⟩
  have RY0 := Lib.hid (Rd.of_own hn.own)
  have RL' := Lib.hid (rdNL RL.out hn.bel)
  clear RL; have RL := RL'; clear RL'
  have HB' := Lib.hid (HB.out.trans (hn.bel.mono HB.out.size)); clear HB; have HB := HB'; clear HB'
  have RY := RY0; clear RY0
  obtain ⟨b6, c6, rfl⟩ := hn.nn
  have Hc6 := Lib.hid (own_cap3 hn.own)
  have hl6 := hn.len
  have Hsm6 := Lib.hid (show ∀ x ∈ ys, smL x from fun x hx => (hn.sm x hx).sm)
  clear hn
  have hm6 : ys.length ≤ 1048576 := by omega
  have HBI := Lib.hid (fun wx (hx : RdL wx wx.heap.size (.slice (some ⟨b6, 0, none⟩) ys.length c6) ys) => BusI_any _ _ ys wx hx (Nat.le_refl _) hm6 Hsm6.out (fun A n c' e => by injection e with _ e2 e3; exact ⟨by have := Hc6.out.1; omega, by have := Hc6.out.2; omega⟩))
  have HBS := Lib.hid (fun wx (hx : RdL wx wx.heap.size (.slice (some ⟨b6, 0, none⟩) ys.length c6) ys) => BusS_any _ _ ys wx hx hm6 Hsm6.out)
  have HLI := Lib.hid (fun z wx (hx : RdL wx wx.heap.size (.slice (some ⟨b6, 0, none⟩) ys.length c6) ys) => LentI_any _ _ ys z wx hx (Nat.le_refl _) hm6 Hsm6.out (fun A n c' e => by injection e with _ e2 e3; exact ⟨by have := Hc6.out.1; omega, by have := Hc6.out.2; omega⟩))
  have HM := Lib.hid (fun h z => busM_law (xs := ys) h z)
  generalize busC ys = C2 at *
  generalize busD ys = BD at *
  generalize busM ys = BM at *
  go_wp2_with fail
  refine (HBI.out _ RY.out).mono ?_; rintro e wn ⟨rfl, hb⟩
  have RL' := Lib.hid (rdNL RL.out hb)
  have RY' := Lib.hid (rdNL RY.out hb)
  clear RL; have RL := RL'; clear RL'
  clear RY; have RY := RY'; clear RY'
  have HB' := Lib.hid (HB.out.trans (hb.mono HB.out.size)); clear HB; have HB := HB'; clear HB'
  clear hb HBI
  go_wp2_with fail
  refine (HBS.out _ RY.out).mono ?_; rintro e wn ⟨rfl, n2, hw⟩
  have hb := below_eqL hw
  clear hw
  have RL' := Lib.hid (rdNL RL.out hb)
  have RY' := Lib.hid (rdNL RY.out hb)
  clear RL; have RL := RL'; clear RL'
  clear RY; have RY := RY'; clear RY'
  have HB' := Lib.hid (HB.out.trans (hb.mono HB.out.size)); clear HB; have HB := HB'; clear HB'
  clear hb
  clear HBS
  go_wp2_with fail
  refine (drawLA_any _ _ bs _ (HC.out.below HB.out) HB.out.size).mono ?_; rintro e wn ⟨v7, zs, t, rfl, hn⟩
  have RZ0 := Lib.hid (Rd.of_own hn.own)
  have RL' := Lib.hid (rdNL RL.out hn.bel)
  have RY' := Lib.hid (rdNL RY.out hn.bel)
  clear RL; have RL := RL'; clear RL'
  clear RY; have RY := RY'; clear RY'
  have HB' := Lib.hid (HB.out.trans (hn.bel.mono HB.out.size)); clear HB; have HB := HB'; clear HB'
  have RZ := RZ0; clear RZ0
  obtain ⟨b7, c7, rfl⟩ := hn.nn
  have Hc7 := Lib.hid (own_cap3 hn.own)
  have hl7 := hn.len
  have Hsm7 := Lib.hid (show ∀ x ∈ zs, smL x from fun x hx => (hn.sm x hx).sm)
  clear hn
  have hm7 : zs.length ≤ 1048576 := by omega
  have HTI := Lib.hid (fun wx (hx : RdL wx wx.heap.size (.slice (some ⟨b7, 0, none⟩) zs.length c7) zs) => LentI_any _ _ zs t wx hx (Nat.le_refl _) hm7 Hsm7.out (fun A n c' e => by injection e with _ e2 e3; exact ⟨by have := Hc7.out.1; omega, by have := Hc7.out.2; omega⟩))
  have HTS := Lib.hid (fun wx (hx : RdL wx wx.heap.size (.slice (some ⟨b7, 0, none⟩) zs.length c7) zs) => LentS_any _ _ zs t wx hx hm7 Hsm7.out)
  generalize lentV zs t = LV at *
  generalize lentC zs = LC at *
  go_wp2_with fail
  refine (HTI.out _ RZ.out).mono ?_; rintro e wn ⟨rfl, hb⟩
  have RL' := Lib.hid (rdNL RL.out hb)
  have RY' := Lib.hid (rdNL RY.out hb)
  have RZ' := Lib.hid (rdNL RZ.out hb)
  clear RL; have RL := RL'; clear RL'
  clear RY; have RY := RY'; clear RY'
  clear RZ; have RZ := RZ'; clear RZ'
  have HB' := Lib.hid (HB.out.trans (hb.mono HB.out.size)); clear HB; have HB := HB'; clear HB'
  clear hb HTI
  go_wp2_with fail
  refine (HTS.out _ RZ.out).mono ?_; rintro e wn ⟨rfl, n3, hw⟩
  have hb := below_eqL hw
  clear hw
  have RL' := Lib.hid (rdNL RL.out hb)
  have RY' := Lib.hid (rdNL RY.out hb)
  have RZ' := Lib.hid (rdNL RZ.out hb)
  clear RL; have RL := RL'; clear RL'
  clear RY; have RY := RY'; clear RY'
  clear RZ; have RZ := RZ'; clear RZ'
  have HB' := Lib.hid (HB.out.trans (hb.mono HB.out.size)); clear HB; have HB := HB'; clear HB'
  clear hb
  clear HTS
  clear RZ
  clear Hc7 Hsm7 hl7 hm7
  go_wp2_with fail
  refine (drawLO_any _ _ bs _ (HC.out.below HB.out) HB.out.size).mono ?_; rintro e wn ⟨v8, us, t2, rfl, hn⟩
  have RU0 := Lib.hid (Rd.of_own hn.own)
  have RL' := Lib.hid (rdNL RL.out hn.bel)
  have RY' := Lib.hid (rdNL RY.out hn.bel)
  clear RL; have RL := RL'; clear RL'
  clear RY; have RY := RY'; clear RY'
  have HB' := Lib.hid (HB.out.trans (hn.bel.mono HB.out.size)); clear HB; have HB := HB'; clear HB'
  have RU := RU0; clear RU0
  obtain ⟨b8, c8, rfl⟩ := hn.nn
  have Hc8 := Lib.hid (own_cap3 hn.own)
  have hl8 := hn.len
  have Hsm8 := Lib.hid (show ∀ x ∈ us, smL x from fun x hx => (hn.sm x hx).sm)
  clear hn
  have hm8 : us.length ≤ 1048576 := by omega
  have HOI := Lib.hid (fun wx (hx : RdL wx wx.heap.size (.slice (some ⟨b8, 0, none⟩) us.length c8) us) => LoansOfI_any _ _ us t2 wx hx (Nat.le_refl _) hm8 Hsm8.out (fun A n c' e => by injection e with _ e2 e3; exact ⟨by have := Hc8.out.1; omega, by have := Hc8.out.2; omega⟩))
  have HOS := Lib.hid (fun wx (hx : RdL wx wx.heap.size (.slice (some ⟨b8, 0, none⟩) us.length c8) us) => LoansOfS_any _ _ us t2 wx hx (Nat.le_refl _) hm8 Hsm8.out)
  have hO : (ofR us t2).length ≤ 1048576 := Nat.le_trans (ofR_len us t2) hm8
  unfold RetLn at HOI HOS
  generalize ofR us t2 = O at *
  generalize lentC us = OC at *
  go_wp2_with fail
  refine (HOI.out _ RU.out).mono ?_; rintro e wn ⟨v9, rfl, ho, hb⟩
  have RO0 := Lib.hid (Rd.of_own ho)
  have RL' := Lib.hid (rdNL RL.out hb)
  have RY' := Lib.hid (rdNL RY.out hb)
  have RU' := Lib.hid (rdNL RU.out hb)
  clear RL; have RL := RL'; clear RL'
  clear RY; have RY := RY'; clear RY'
  clear RU; have RU := RU'; clear RU'
  have HB' := Lib.hid (HB.out.trans (hb.mono HB.out.size)); clear HB; have HB := HB'; clear HB'
  have RO := RO0; clear RO0
  obtain ⟨A9, c9, rfl⟩ := sl_of_ownF ho
  clear ho hb HOI
  go_wp2_with fail
  refine (HOS.out _ RU.out).mono ?_; rintro e wn ⟨v10, rfl, ho, hb⟩
  have RP0 := Lib.hid (Rd.of_own ho)
  have RL' := Lib.hid (rdNL RL.out hb)
  have RY' := Lib.hid (rdNL RY.out hb)
  have RU' := Lib.hid (rdNL RU.out hb)
  have RO' := Lib.hid (rdNL RO.out hb)
  clear RL; have RL := RL'; clear RL'
  clear RY; have RY := RY'; clear RY'
  clear RU; have RU := RU'; clear RU'
  clear RO; have RO := RO'; clear RO'
  have HB' := Lib.hid (HB.out.trans (hb.mono HB.out.size)); clear HB; have HB := HB'; clear HB'
  have RP := RP0; clear RP0
  obtain ⟨A10, c10, rfl⟩ := sl_of_ownF ho
  clear ho hb HOS HC
  clear RU
  clear Hc8 Hsm8 hl8 hm8
  have HSR := Lib.hid (fun wx v1 v2 (zs : List Ln) (h1 : RdL wx wx.heap.size v1 zs) (h2 : RdL wx wx.heap.size v2 zs) (hz : zs.length ≤ 1048576) => SameLS_any _ _ v1 v2 zs zs wx h1 h2 hz)
  simp only [decide_true] at HSR
  go_wp2_with fail
  refine (HSR.out _ _ _ O RO.out RP.out hO).mono ?_; rintro e wn ⟨rfl, n4, hw⟩
  have hb := below_eqL hw
  clear hw
  have RL' := Lib.hid (rdNL RL.out hb)
  have RY' := Lib.hid (rdNL RY.out hb)
  have RO' := Lib.hid (rdNL RO.out hb)
  have RP' := Lib.hid (rdNL RP.out hb)
  clear RL; have RL := RL'; clear RL'
  clear RY; have RY := RY'; clear RY'
  clear RO; have RO := RO'; clear RO'
  clear RP; have RP := RP'; clear RP'
  have HB' := Lib.hid (HB.out.trans (hb.mono HB.out.size)); clear HB; have HB := HB'; clear HB'
  clear hb
  clear RO
  clear RP
  clear HSR hO
  by_cases hc2 : C2 = 0
  · subst hc2
    obtain ⟨_, hokY⟩ := HM.out rfl 0
    have HM2 := Lib.hid (fun z => (HM.out rfl z).1)
    have HLI2 := Lib.hid (show ∀ z wx, RdL wx wx.heap.size (.slice (some ⟨b6, 0, none⟩) ys.length c6) ys → Calls Try.prog 14 #[(.slice (some ⟨b6, 0, none⟩) ys.length c6), .int .i64 z] wx fun e w' => e = .returned (.tuple #[.int .i64 (cntL ys z : Nat), .int .i64 0]) ∧ Below wx.heap.size wx w' from fun z wx hx => by have h1 := HLI.out z wx hx; unfold lentV lentC at h1; rw [if_pos hokY, if_pos hokY] at h1; exact h1)
    clear HM HLI hokY
    go_wp2_with fail
    generalize hW1 : wn = w1 at *
    clear hW1
    go_loopw [30] (fun i wr => ∃ k : Nat, k ≤ ys.length ∧ i = .int .i64 (k : Int) ∧ Below w1.heap.size w1 wr) (fun i _ => ys.length - (intOf i).toNat)
    case atStart => exact ⟨0, Nat.zero_le _, rfl, Below.refl _ _⟩
    case round =>
      obtain ⟨k, hk, rfl, hbl⟩ := hrel
      have HRY := Lib.hid (rdNL RY.out hbl)
      by_cases hlt : k < ys.length
      · have hlt' : (k : Int) < (ys.length : Int) := by omega
        obtain ⟨b1, o1, hA, hE⟩ := HRY.out.at k hlt
        injection hA with hA2
        injection hA2 with hA3 hA4
        subst hA3 hA4
        have HEr := Lib.hid (fun w2 (hb : Below wr.heap.size wr w2) => (RdL.at (rdNL HRY.out hb) k hlt))
        generalize ys[k] = x at *
        obtain ⟨xa, xb, xf, xt⟩ := x
        obtain ⟨hbB, e0, e1, e2, e3⟩ := hE
        dsimp only at e0 e1 e2 e3 HEr
        simp only [Nat.zero_add] at e2
        clear e0 e1 e3
        have HL1 := Lib.hid (HLI2.out xf)
        have HL2 := Lib.hid (HLI2.out xt)
        have h1 := HM2.out xf
        have h2 := HM2.out xt
        generalize cntL ys xf = m1 at *
        generalize cntL ys xt = m2 at *
        have h1' : ¬ BM < (m1 : Int) := by omega
        have h2' : ¬ BM < (m2 : Int) := by omega
        go_wp2_with fail
        refine (HL1.out _ HRY.out).mono ?_; rintro e w2 ⟨rfl, hb⟩
        have HRY2 := Lib.hid (rdNL HRY.out hb)
        obtain ⟨b2, o2, hA, hE⟩ := HEr.out _ hb
        injection hA with hA2
        injection hA2 with hA3 hA4
        subst hA3 hA4
        obtain ⟨_, _, _, _, e3⟩ := hE
        dsimp only at e3
        simp only [Nat.zero_add] at e3
        have Hb2 := Lib.hid (hbl.trans (hb.mono hbl.size))
        clear hb e2 hbl HRY HEr
        go_wp2_with fail
        refine (HL2.out _ HRY2.out).mono ?_; rintro e w3 ⟨rfl, hb⟩
        have Hbf := Lib.hid (Hb2.out.trans (hb.mono Hb2.out.size))
        clear hb e3 HRY2
        go_wp2_with fail
        go_roundw
        case rel => exact ⟨k + 1, by omega, by go_num, Hbf.out⟩
        case measure => simp [intOf]; omega
      · have hkl : k = ys.length := by omega
        subst hkl
        have hlt' : ¬ (ys.length : Int) < (ys.length : Int) := by omega
        have RL' := Lib.hid (rdNL RL.out hbl); clear RL; have RL := RL'; clear RL'
        have HB' := Lib.hid (HB.out.trans (hbl.mono HB.out.size)); clear HB; have HB := HB'; clear HB'
        clear HRY RY HM2 HLI2 Hc6 Hsm6 hl6 hm6 hbl hk hlt
        by_cases hc1 : C1 = 0
        · subst hc1
          obtain ⟨ha1, ha2⟩ := HK.out rfl
          subst ha2
          obtain ⟨hok, d0, d1, n0, n1, hh⟩ := HC0.out rfl
          clear HK HC0
          have hlt : ¬ AT < d := by omega
          have HBN := Lib.hid (fun k h0 h1 wx (hx : RdL wx wx.heap.size (.slice (some ⟨b3, 0, none⟩) xs.length c3) xs) => BorrowN_any _ _ xs s k wx hx (Nat.le_refl _) hm3 Hsm3.out (fun A n c' e => by injection e with _ e2 e3; exact ⟨by have := Hc3.out.1; omega, by have := Hc3.out.2; omega⟩) hok (Hask.out rfl k h0 h1))
          have Had := Lib.hid (Hadd.out rfl)
          clear Hask Hadd hok
          obtain ⟨mn, hmn, hmn1, hmn2, hm50⟩ : ∃ m : Nat, (if 50 < n then (50 : Int) else n) = (m : Int) ∧ 1 ≤ m ∧ (m : Int) ≤ n ∧ (m : Int) ≤ 50 := by
            split
            · exact ⟨50, rfl, by omega, by omega, by omega⟩
            · exact ⟨n.toNat, by omega, by omega, by omega, by omega⟩
          go_wp2_with fail
          generalize hW1 : wr = w1 at *
          clear hW1
          go_loopw [35] (fun i wr => ∃ k : Nat, k ≤ mn ∧ i = .int .i64 (AT + k) ∧ Below w1.heap.size w1 wr) (fun i _ => mn - (intOf i - AT).toNat)
          case atStart => exact ⟨0, Nat.zero_le _, by simp, Below.refl _ _⟩
          case round =>
            obtain ⟨k, hk, rfl, hbl⟩ := hrel
            have HRL := Lib.hid (rdNL RL.out hbl)
            by_cases hlt2 : k < mn
            · have hlt3 : (k : Int) < (mn : Int) := by omega
              go_wp2_with fail
              refine (HBN.out (AT + k) (by omega) (by omega) _ HRL.out).mono ?_; rintro e w2 ⟨rfl, hb⟩
              have Hbf := Lib.hid (hbl.trans (hb.mono hbl.size))
              clear hb hbl HRL
              go_wp2_with fail
              go_roundw
              case rel => exact ⟨k + 1, by omega, by go_num, Hbf.out⟩
              case measure => simp [intOf]; omega
            · have hkm : k = mn := by omega
              subst hkm
              have hlt3 : ¬ (k : Int) < (k : Int) := by omega
              have HB' := Lib.hid (HB.out.trans (hbl.mono HB.out.size)); clear HB; have HB := HB'; clear HB'
              have hX : addR xs ⟨s, ⟨#[120]⟩, AT, AT + n - 1⟩ = addR xs ⟨s, ⟨#[120]⟩, AT, AT + n - 1⟩ := rfl
              clear hX
              have hxs : smL ⟨s, ⟨#[120]⟩, AT, AT + n - 1⟩ := ⟨Nat.le_trans hs16 (by omega), by show 1 ≤ _; omega⟩
              have HAI := Lib.hid (AddI_any wr.heap.size b3 0 c3 xs ⟨s, ⟨#[120]⟩, AT, AT + n - 1⟩ wr HRL.out (Nat.le_refl _) hm3 Hsm3.out hxs Hc3.out.1 Hc3.out.2)
              have HNM := Lib.hid (fun wx => IsNameS_any s wx (by omega))
              have hwr : IntKind.i64.wrap (AT + n - 1) = AT + n - 1 := IntWalk.i64_in _ (by omega)
              unfold RetLn at HAI
              generalize addR xs ⟨s, ⟨#[120]⟩, AT, AT + n - 1⟩ = X at *
              generalize addC xs ⟨s, ⟨#[120]⟩, AT, AT + n - 1⟩ = CX at *
              generalize isNm s.data.toList = NM at *
              clear HBN hxs
              rcases Had.out with hx5 | ⟨hx2, hnm⟩ | ⟨hx0, hlen⟩
              · subst hx5
                go_wp2_with fail
                refine HAI.out.mono ?_; rintro e w2 ⟨v20, rfl, ho, hb⟩
                obtain ⟨A20, c20, rfl⟩ := sl_of_ownF ho
                have Hbf := Lib.hid (HB.out.trans (hb.mono HB.out.size))
                clear ho hb
                go_wp2_with fail
                go_ret
                exact ⟨rfl, Hbf.out⟩
              · subst hx2
                subst hnm
                go_wp2_with fail
                refine HAI.out.mono ?_; rintro e w2 ⟨v20, rfl, ho, hb⟩
                obtain ⟨A20, c20, rfl⟩ := sl_of_ownF ho
                have Hbf := Lib.hid (HB.out.trans (hb.mono HB.out.size))
                clear ho hb
                go_wp2_with fail
                refine (HNM.out _).mono ?_; rintro e w3 ⟨rfl, rfl⟩
                go_wp2_with fail
                go_ret
                exact ⟨rfl, Hbf.out⟩
              · subst hx0
                have hle : ((X.length : Int) == (xs.length : Int) + 1) = true := by rw [hlen]; simp
                clear hlen
                go_wp2_with fail
                refine HAI.out.mono ?_; rintro e w2 ⟨v20, rfl, ho, hb⟩
                obtain ⟨A20, c20, rfl⟩ := sl_of_ownF ho
                have Hbf := Lib.hid (HB.out.trans (hb.mono HB.out.size))
                clear ho hb
                go_wp2_with fail
                go_ret
                exact ⟨rfl, Hbf.out⟩
        · have hc1' : (C1 == 0) = false := by rw [beq_eq_false_iff_ne]; exact hc1
          clear hc1 HK HC0 Hask Hadd
          go_wp2_with fail
          go_ret
          exact ⟨rfl, HB.out⟩
  · have hc2' : (C2 == 0) = false := by rw [beq_eq_false_iff_ne]; exact hc2
    clear hc2 HM HLI RY Hc6 Hsm6 hl6 hm6
    by_cases hc1 : C1 = 0
    · subst hc1
      obtain ⟨ha1, ha2⟩ := HK.out rfl
      subst ha2
      obtain ⟨hok, d0, d1, n0, n1, hh⟩ := HC0.out rfl
      clear HK HC0
      have hlt : ¬ AT < d := by omega
      have HBN := Lib.hid (fun k h0 h1 wx (hx : RdL wx wx.heap.size (.slice (some ⟨b3, 0, none⟩) xs.length c3) xs) => BorrowN_any _ _ xs s k wx hx (Nat.le_refl _) hm3 Hsm3.out (fun A n c' e => by injection e with _ e2 e3; exact ⟨by have := Hc3.out.1; omega, by have := Hc3.out.2; omega⟩) hok (Hask.out rfl k h0 h1))
      have Had := Lib.hid (Hadd.out rfl)
      clear Hask Hadd hok
      obtain ⟨mn, hmn, hmn1, hmn2, hm50⟩ : ∃ m : Nat, (if 50 < n then (50 : Int) else n) = (m : Int) ∧ 1 ≤ m ∧ (m : Int) ≤ n ∧ (m : Int) ≤ 50 := by
        split
        · exact ⟨50, rfl, by omega, by omega, by omega⟩
        · exact ⟨n.toNat, by omega, by omega, by omega, by omega⟩
      go_wp2_with fail
      generalize hW1 : wn = w1 at *
      clear hW1
      go_loopw [35] (fun i wr => ∃ k : Nat, k ≤ mn ∧ i = .int .i64 (AT + k) ∧ Below w1.heap.size w1 wr) (fun i _ => mn - (intOf i - AT).toNat)
      case atStart => exact ⟨0, Nat.zero_le _, by simp, Below.refl _ _⟩
      case round =>
        obtain ⟨k, hk, rfl, hbl⟩ := hrel
        have HRL := Lib.hid (rdNL RL.out hbl)
        by_cases hlt2 : k < mn
        · have hlt3 : (k : Int) < (mn : Int) := by omega
          go_wp2_with fail
          refine (HBN.out (AT + k) (by omega) (by omega) _ HRL.out).mono ?_; rintro e w2 ⟨rfl, hb⟩
          have Hbf := Lib.hid (hbl.trans (hb.mono hbl.size))
          clear hb hbl HRL
          go_wp2_with fail
          go_roundw
          case rel => exact ⟨k + 1, by omega, by go_num, Hbf.out⟩
          case measure => simp [intOf]; omega
        · have hkm : k = mn := by omega
          subst hkm
          have hlt3 : ¬ (k : Int) < (k : Int) := by omega
          have HB' := Lib.hid (HB.out.trans (hbl.mono HB.out.size)); clear HB; have HB := HB'; clear HB'
          have hX : addR xs ⟨s, ⟨#[120]⟩, AT, AT + n - 1⟩ = addR xs ⟨s, ⟨#[120]⟩, AT, AT + n - 1⟩ := rfl
          clear hX
          have hxs : smL ⟨s, ⟨#[120]⟩, AT, AT + n - 1⟩ := ⟨Nat.le_trans hs16 (by omega), by show 1 ≤ _; omega⟩
          have HAI := Lib.hid (AddI_any wr.heap.size b3 0 c3 xs ⟨s, ⟨#[120]⟩, AT, AT + n - 1⟩ wr HRL.out (Nat.le_refl _) hm3 Hsm3.out hxs Hc3.out.1 Hc3.out.2)
          have HNM := Lib.hid (fun wx => IsNameS_any s wx (by omega))
          have hwr : IntKind.i64.wrap (AT + n - 1) = AT + n - 1 := IntWalk.i64_in _ (by omega)
          unfold RetLn at HAI
          generalize addR xs ⟨s, ⟨#[120]⟩, AT, AT + n - 1⟩ = X at *
          generalize addC xs ⟨s, ⟨#[120]⟩, AT, AT + n - 1⟩ = CX at *
          generalize isNm s.data.toList = NM at *
          clear HBN hxs
          rcases Had.out with hx5 | ⟨hx2, hnm⟩ | ⟨hx0, hlen⟩
          · subst hx5
            go_wp2_with fail
            refine HAI.out.mono ?_; rintro e w2 ⟨v20, rfl, ho, hb⟩
            obtain ⟨A20, c20, rfl⟩ := sl_of_ownF ho
            have Hbf := Lib.hid (HB.out.trans (hb.mono HB.out.size))
            clear ho hb
            go_wp2_with fail
            go_ret
            exact ⟨rfl, Hbf.out⟩
          · subst hx2
            subst hnm
            go_wp2_with fail
            refine HAI.out.mono ?_; rintro e w2 ⟨v20, rfl, ho, hb⟩
            obtain ⟨A20, c20, rfl⟩ := sl_of_ownF ho
            have Hbf := Lib.hid (HB.out.trans (hb.mono HB.out.size))
            clear ho hb
            go_wp2_with fail
            refine (HNM.out _).mono ?_; rintro e w3 ⟨rfl, rfl⟩
            go_wp2_with fail
            go_ret
            exact ⟨rfl, Hbf.out⟩
          · subst hx0
            have hle : ((X.length : Int) == (xs.length : Int) + 1) = true := by rw [hlen]; simp
            clear hlen
            go_wp2_with fail
            refine HAI.out.mono ?_; rintro e w2 ⟨v20, rfl, ho, hb⟩
            obtain ⟨A20, c20, rfl⟩ := sl_of_ownF ho
            have Hbf := Lib.hid (HB.out.trans (hb.mono HB.out.size))
            clear ho hb
            go_wp2_with fail
            go_ret
            exact ⟨rfl, Hbf.out⟩
    · have hc1' : (C1 == 0) = false := by rw [beq_eq_false_iff_ne]; exact hc1
      clear hc1 HK HC0 Hask Hadd
      go_wp2_with fail
      go_ret
      exact ⟨rfl, HB.out⟩
end Go.Proofs.Ytmheijnckmlbnaa
