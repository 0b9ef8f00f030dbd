/- Merged texts: Lo14, Lo16, Lo17, Lq1, Dl2, Dl0, Dec, Note, Jr1, Jr2. -/
import Derived.Test.YtmheijnckmlbnaaDoorGCardLoans4
import Derived.Test.YtmheijnckmlbnaaDoorShelf
import Derived.Test.YtmheijnckmlbnaaDoorGCardLoans1
import Derived.Lib.SmallJoins
import Derived.Lib.ItoaMem
import Derived.Lib.LaidTab
/- Loans, part 14 (printed by genlo14.py): a loan is added, the reference's side. -/
namespace Go.Proofs.YtmheijnckmlbnaaDoor
open Go.RowKit Go.Joins

theorem dnS_at (p : Nat → Bool) (m : Nat) : dnS p (m + 1) = if p m = true then dnS p m else m + 1 := rfl
theorem dn_cases (p : Nat → Bool) (k : Nat) : (∃ m, m + 1 = k ∧ p m = true ∧ dnS p k = dnS p m) ∨ (k = 0 ∧ dnS p k = k) ∨ ∃ m, m + 1 = k ∧ p m = false ∧ dnS p k = k := by
  cases k with
  | zero => exact .inr (.inl ⟨rfl, rfl⟩)
  | succ m =>
    cases h : p m with
    | true => exact .inl ⟨m, rfl, h, by rw [dnS_at, h]; rfl⟩
    | false => exact .inr (.inr ⟨m, rfl, h, by rw [dnS_at, h]; rfl⟩)

set_option maxRecDepth 100000 in
set_option maxHeartbeats 6400000 in
theorem AddS_any (B b o c : Nat) (xs : List Ln) (x : Ln) (w : World) (h : RdL w B (.slice (some ⟨b, o, none⟩) xs.length c) xs) (hB : B ≤ w.heap.size) (hl : xs.length ≤ 1048576) (hsm : ∀ x ∈ xs, smL x) (hx : smL x) (hc : xs.length ≤ c) (hc2 : c ≤ maxLen) :
    Calls Tryd.prog 9 #[.slice (some ⟨b, o, none⟩) xs.length c, aggL x] w (RetLn (addC xs x) (addR xs x) w) := by
  have HV := Lib.hid (fun wx hx => l23Ok_any B (.slice (some ⟨b, o, none⟩) xs.length c) xs wx hx hl hsm)
  have HO := Lib.hid (fun wx B2 b2 o2 h2 => l23One_any B2 b2 o2 x wx h2 hx)
  have A1 := Lib.hid (add_1 (xs := xs) (x := x))
  have A2 := Lib.hid (add_2 (xs := xs) (x := x))
  have A9 := Lib.hid (add_9 (xs := xs) (x := x))
  have A5 := Lib.hid (add_5 (xs := xs) (x := x))
  have A0 := Lib.hid (add_0 (xs := xs) (x := x))
  have hal := addAt_le xs x
  have Hdn := Lib.hid (show addAt xs x = dnS (fun k => before x (atL xs k)) xs.length from rfl)
  have Hln := Lib.hid (loansOk_len (xs := xs))
  generalize addC xs x = C at *
  generalize addR xs x = R at *
  generalize addAt xs x = at' at *
  have H := Lib.hid h
  clear h hsm hx
  simp only [maxLen] at hc2
  obtain ⟨xa, xb, xf, xt⟩ := x
  have hb0 := Lib.hid ((Below.refl w.heap.size w).alloc (Nat.le_refl _) (.cells #[.string xa, .string xb, .int .i64 xf, .int .i64 xt] 26))
  have Hnw := Lib.hid (heap_alloc_new w (.cells #[.string xa, .string xb, .int .i64 xf, .int .i64 xt] 26))
  have hlw : w.heap.size < (w.alloc (.cells #[.string xa, .string xb, .int .i64 xf, .int .i64 xt] 26)).heap.size := by simp
  have HL := Lib.hid (H.out.below (hb0.out.mono hB))
  have hzB : B ≤ (w.alloc (.cells #[.string xa, .string xb, .int .i64 xf, .int .i64 xt] 26)).heap.size := Nat.le_trans hB (Nat.le_of_lt hlw)
  go_enter Tryd.func9, Tryd.ntmps9
  go_wp2_with fail
  generalize w.alloc (.cells #[.string xa, .string xb, .int .i64 xf, .int .i64 xt] 26) = wn at *
  have HX := Lib.hid (fun wx (hb : Below wn.heap.size wn wx) => (show LnAt wx wn.heap.size w.heap.size 0 ⟨xa, xb, xf, xt⟩ from by
    obtain ⟨d0, d1, d2, d3⟩ := four_at ((hb.block _ hlw).trans Hnw.out)
    exact ⟨hlw, d0, d1, d2, d3⟩))
  have hb00 := Lib.hid (Below.refl wn.heap.size wn)
  refine (HV.out _ HL.out).mono ?_; rintro e w1 ⟨rfl, n1, rfl⟩
  have hb1 := Lib.hid (below_drewN hb00.out n1)
  generalize wn.drewN n1 = w1 at *
  cases g1 : loansOk xs with
  | false =>
    have Hf := Lib.hid (A1.out g1)
    clear A1 A2 A9 A5 A0
    go_wp2_with fail
    go_ret2
    exact RetLn_no Hf.out (hb0.out.trans (hb1.out.mono hb0.out.size))
  | true =>
    cases g2 : loanOk ⟨xa, xb, xf, xt⟩ with
    | false =>
      have Hf := Lib.hid (A2.out g1 g2)
      rw [g2] at HO
      clear g1 g2 A1 A2 A9 A5 A0
      go_wp2_with fail
      refine (HO.out _ _ _ _ (HX.out _ hb1.out)).mono ?_; rintro e w2 ⟨rfl, n2, rfl⟩
      go_wp2_with fail
      go_ret2
      exact RetLn_no Hf.out (hb0.out.trans ((below_drewN hb1.out n2).mono hb0.out.size))
    | true =>
      have B9 := Lib.hid (A9.out g1 g2)
      have B5 := Lib.hid (A5.out g1 g2)
      have B0 := Lib.hid (A0.out g1 g2)
      have hlen := Hln.out g1
      rw [g2] at HO
      clear g1 g2 A1 A2 A9 A5 A0 Hln
      go_wp2_with fail
      refine (HO.out _ _ _ _ (HX.out _ hb1.out)).mono ?_; rintro e w2 ⟨rfl, n2, rfl⟩
      have hb2 := Lib.hid (below_drewN hb1.out n2)
      generalize w1.drewN n2 = w2 at *
      clear HO
      go_wp2_with fail
      go_loopw [6] (fun i wr => ∃ k : Nat, k ≤ xs.length ∧ chk k (hitI xs ⟨xa, xb, xf, xt⟩) = true ∧ i = .int .i64 k ∧ Below wn.heap.size wn wr) (fun i _ => xs.length - (intOf i).toNat)
      case atStart => exact ⟨0, Nat.zero_le _, rfl, rfl, hb2.out⟩
      case round =>
        obtain ⟨k, hk, hall, rfl, hbl⟩ := hrel
        have Hall := Lib.hid hall; clear hall
        by_cases hlt : k < xs.length
        · obtain ⟨b1, o1, hA, hE⟩ := (HL.out.below (hbl.mono hzB)).at k hlt
          obtain ⟨rfl, rfl⟩ : b = b1 ∧ o = o1 := by simpa using hA
          clear hA
          have hlt' : (k : Int) < (xs.length : Int) := by omega
          have K9 := Lib.hid (B9.out k hlt)
          have Kh := Lib.hid (hit_step hlt Hall.out)
          have HC := Lib.hid (l23Clash_any B wn.heap.size b (o + k * 4) w.heap.size 0 xs[k] ⟨xa, xb, xf, xt⟩ wr hE (HX.out _ hbl))
          rw [clash_comm] at HC
          have Hbl := Lib.hid hbl
          clear hE hbl
          generalize xs[k] = y at *
          cases gc : clash ⟨xa, xb, xf, xt⟩ y with
          | true =>
            have Hf := Lib.hid (K9.out gc)
            rw [gc] at HC
            clear gc
            go_wp2_with fail
            refine HC.out.mono ?_; rintro e w5 ⟨rfl, n5, rfl⟩
            go_wp2_with fail
            go_ret2
            exact RetLn_no Hf.out (hb0.out.trans ((below_drewN Hbl.out n5).mono hb0.out.size))
          | false =>
            have Kh2 := Lib.hid (Kh.out gc)
            rw [gc] at HC
            clear gc
            go_wp2_with fail
            refine HC.out.mono ?_; rintro e w5 ⟨rfl, n5, rfl⟩
            go_wp2_with fail
            go_roundw
            case rel => exact ⟨k + 1, by omega, Kh2.out, by go_num, below_drewN Hbl.out n5⟩
            case measure => simp [intOf]; omega
        · obtain rfl : k = xs.length := by omega
          by_cases h60 : 60 ≤ xs.length
          · have Hf := Lib.hid (B5.out Hall.out h60)
            have hq : (60 : Int) ≤ (xs.length : Int) := by omega
            go_wp2_with fail
            go_ret2
            exact RetLn_no Hf.out (hb0.out.trans (hbl.mono hb0.out.size))
          · have Hf := Lib.hid (B0.out Hall.out (by omega))
            have hq : (xs.length : Int) < 60 := by omega
            have Hbl := Lib.hid hbl
            clear Hall B9 B5 B0 hbl
            go_wp2_with fail
            go_loopw [7] (fun i wr => ∃ k : Nat, k ≤ xs.length ∧ at' = dnS (fun k => before ⟨xa, xb, xf, xt⟩ (atL xs k)) k ∧ i = .int .i64 k ∧ Below wn.heap.size wn wr) (fun i _ => (intOf i).toNat)
            case atStart => exact ⟨xs.length, Nat.le_refl _, Hdn.out, rfl, Hbl.out⟩
            case round =>
              obtain ⟨k, hk, hdn, rfl, hbl⟩ := hrel
              have Hd2 := Lib.hid hdn; clear hdn
              rcases dn_cases (fun k => before ⟨xa, xb, xf, xt⟩ (atL xs k)) k with ⟨m, hm, gb, hd⟩ | ⟨h0, hd⟩ | ⟨m, hm, gb, hd⟩
              · have Hd := Lib.hid (Hd2.out.trans hd); clear hd
                obtain ⟨b1, o1, hA, hE⟩ := (HL.out.below (hbl.mono hzB)).atD m (by omega)
                obtain ⟨rfl, rfl⟩ : b = b1 ∧ o = o1 := by simpa using hA
                clear hA
                have HB := Lib.hid (l23Before_any wn.heap.size B w.heap.size 0 b (o + m * 4) ⟨xa, xb, xf, xt⟩ (atL xs m) wr (HX.out _ hbl) hE)
                (try dsimp only at gb)
                rw [gb] at HB
                have hk0 : decide (0 < k) = true := decide_eq_true (by omega)
                have hm1 : IntKind.i64.wrap ((k : Int) - 1) = (m : Int) := by rw [IntWalk.i64_in _ (by omega)]; omega
                have hm3 : (k : Int) - 1 = (m : Int) := by omega
                have hm2 : (m : Int) < (xs.length : Int) := by omega
                have Hm := Lib.hid hm
                have Hbl2 := Lib.hid hbl
                clear gb hm hE hbl
                go_wp2_with fail
                refine HB.out.mono ?_; rintro e w5 ⟨rfl, n5, rfl⟩
                go_wp2_with fail
                clear hm1 hm3
                go_roundw
                case rel => exact ⟨m, by omega, Hd.out, by first | rfl | (congr 1; have := Hm.out; omega), below_drewN Hbl2.out n5⟩
                case measure => have := Hm.out; simp [intOf]; omega
              · have hk0 : decide (0 < k) = false := decide_eq_false (by omega)
                have hda := Hd2.out.trans hd
                clear hd h0 Hd2
                obtain rfl : at' = k := hda
                have Hbl2 := Lib.hid hbl
                clear hbl
                have hzr : wn.heap.size ≤ wr.heap.size := Hbl2.out.size
                have hkc : at' ≤ c := by omega
                have ho0 := Lib.hid (World.ownsRow_made (base := wn.heap.size) (e := 26) (size := 4) wr #[] 0 (by first | exact hzr | (simp; exact hzr)) (by simp [maxLen]) rfl)
                have hba := Lib.hid ((Hbl2.out).alloc (by first | exact hzr | (simp; exact hzr)) (.cells #[] 26))
                have HLb := Lib.hid (HL.out.below (hba.out.mono hzB))
                have Hl1 := Lib.hid (show ((xs.take at').flatMap cellsL).length = at' * 4 by rw [flat_len cellsL 4 (fun _ => rfl), List.length_take]; omega)
                have Hl2 := Lib.hid (show ((xs.drop at').flatMap cellsL).length = (xs.length - at') * 4 by rw [flat_len cellsL 4 (fun _ => rfl), List.length_drop])
                have Hlt := Lib.hid (show (xs.take at').length = at' by rw [List.length_take]; omega)
                by_cases hcap : c = at'
                · obtain rfl : c = at' := hcap
                  go_wp2_with (first | (at_builtin; refine wpList_apr 24 26 _ 4 48 Tryd.underlying24 infoL rfl (by omega) _ _ rfl rfl wn.heap.size _ 0 _ rfl ho0.out b o c _ ((xs.take c).flatMap cellsL) rfl Hl1.out (HLb.out.head c) (cellsL_one _) (by simp [maxLen]; omega) (by omega) hba.out.size ?_; intro v7 w7 hown7 hg7; obtain ⟨_, A7, c7, rfl, _⟩ := Rd.of_own hown7; have Hb7 := Lib.hid (below_apd hba.out ho0.out hg7 (Nat.le_refl _) hba.out.size); simp only [Nat.zero_add, List.nil_append] at hown7; have Hown7 := Lib.hid hown7; clear hown7 hg7; obtain ⟨d0, d1, d2, d3⟩ := four_at ((Hb7.out.block _ hlw).trans Hnw.out)) | (at_builtin; refine wpList_apd 24 26 _ 4 48 Tryd.underlying24 infoL rfl (by omega) _ _ rfl rfl wn.heap.size _ c _ rfl Hown7.out #[.string xa, .string xb, .int .i64 xf, .int .i64 xt] 1 1 rfl rfl (by simp [Value.oneCell']) (by simp [maxLen]; omega) (by omega) (Hb7.out.size) ?_; intro v8 w8 hown8 hg8; have Hb8 := Lib.hid (below_apd Hb7.out Hown7.out hg8 (Nat.le_refl _) Hb7.out.size); obtain ⟨_, A8, c8, rfl, _⟩ := Rd.of_own hown8; have Hown8 := Lib.hid hown8; clear hown8 hg8 d0 d1 d2 d3) | (at_builtin; refine wpList_apr 24 26 _ 4 48 Tryd.underlying24 infoL rfl (by omega) _ _ rfl rfl wn.heap.size _ (c + 1) _ rfl Hown8.out b o 0 0 [] rfl rfl (by simp) (by simp) (by simp [maxLen]; omega) (by omega) (Hb8.out.size) ?_; intro v9 w9 hown9 hg9; have Hb9 := Lib.hid (below_apd Hb8.out Hown8.out hg9 (Nat.le_refl _) Hb8.out.size); obtain ⟨_, A9, c9, rfl, _⟩ := Rd.of_own hown9; have Hown9 := Lib.hid hown9; clear hown9 hg9))
                  go_ret2
                  exact RetLn_yes (by have := Hf.out; rw [List.drop_of_length_le (by omega)] at this; exact this) (OwnL.mid (ys := []) (x := ⟨xa, xb, xf, xt⟩) Hown9.out Hlt.out rfl hb0.out.size) (hb0.out.trans (Hb9.out.mono hb0.out.size))
                · go_wp2_with (first | (at_builtin; refine wpList_apr 24 26 _ 4 48 Tryd.underlying24 infoL rfl (by omega) _ _ rfl rfl wn.heap.size _ 0 _ rfl ho0.out b o at' _ ((xs.take at').flatMap cellsL) rfl Hl1.out (HLb.out.head at') (cellsL_one _) (by simp [maxLen]; omega) (by omega) hba.out.size ?_; intro v7 w7 hown7 hg7; obtain ⟨_, A7, c7, rfl, _⟩ := Rd.of_own hown7; have Hb7 := Lib.hid (below_apd hba.out ho0.out hg7 (Nat.le_refl _) hba.out.size); simp only [Nat.zero_add, List.nil_append] at hown7; have Hown7 := Lib.hid hown7; clear hown7 hg7; obtain ⟨d0, d1, d2, d3⟩ := four_at ((Hb7.out.block _ hlw).trans Hnw.out)) | (at_builtin; refine wpList_apd 24 26 _ 4 48 Tryd.underlying24 infoL rfl (by omega) _ _ rfl rfl wn.heap.size _ at' _ rfl Hown7.out #[.string xa, .string xb, .int .i64 xf, .int .i64 xt] 1 1 rfl rfl (by simp [Value.oneCell']) (by simp [maxLen]; omega) (by omega) (Hb7.out.size) ?_; intro v8 w8 hown8 hg8; have Hb8 := Lib.hid (below_apd Hb7.out Hown7.out hg8 (Nat.le_refl _) Hb7.out.size); obtain ⟨_, A8, c8, rfl, _⟩ := Rd.of_own hown8; have Hown8 := Lib.hid hown8; clear hown8 hg8 d0 d1 d2 d3) | (at_builtin; refine wpList_apr 24 26 _ 4 48 Tryd.underlying24 infoL rfl (by omega) _ _ rfl rfl wn.heap.size _ (at' + 1) _ rfl Hown8.out b (o + at' * 4) (xs.length - at') _ ((xs.drop at').flatMap cellsL) rfl Hl2.out ((HL.out.below (Hb8.out.mono hzB)).tail at' (by omega)) (cellsL_one _) (by simp [maxLen]; omega) (by omega) (Hb8.out.size) ?_; intro v9 w9 hown9 hg9; have Hb9 := Lib.hid (below_apd Hb8.out Hown8.out hg9 (Nat.le_refl _) Hb8.out.size); obtain ⟨_, A9, c9, rfl, _⟩ := Rd.of_own hown9; have Hown9 := Lib.hid hown9; clear hown9 hg9))
                  go_ret2
                  exact RetLn_yes Hf.out (OwnL.mid (x := ⟨xa, xb, xf, xt⟩) Hown9.out Hlt.out (by rw [List.length_drop]) hb0.out.size) (hb0.out.trans (Hb9.out.mono hb0.out.size))
              · have hda := Hd2.out.trans hd
                clear hd Hd2
                obtain rfl : at' = k := hda
                obtain ⟨b1, o1, hA, hE⟩ := (HL.out.below (hbl.mono hzB)).atD m (by omega)
                obtain ⟨rfl, rfl⟩ : b = b1 ∧ o = o1 := by simpa using hA
                clear hA
                have HB := Lib.hid (l23Before_any wn.heap.size B w.heap.size 0 b (o + m * 4) ⟨xa, xb, xf, xt⟩ (atL xs m) wr (HX.out _ hbl) hE)
                (try dsimp only at gb)
                rw [gb] at HB
                have hk0 : decide (0 < at') = true := decide_eq_true (by omega)
                have hm1 : IntKind.i64.wrap ((at' : Int) - 1) = (m : Int) := by rw [IntWalk.i64_in _ (by omega)]; omega
                have hm3 : (at' : Int) - 1 = (m : Int) := by omega
                have hm2 : (m : Int) < (xs.length : Int) := by omega
                have Hm := Lib.hid hm
                have Hbl2 := Lib.hid hbl
                clear gb hm hE hbl
                go_wp2_with fail
                refine HB.out.mono ?_; rintro e w5 ⟨rfl, n5, rfl⟩
                clear hm1 hm3
                have hzr : wn.heap.size ≤ wr.heap.size := Hbl2.out.size
                have hkc : at' ≤ c := by omega
                have ho0 := Lib.hid (World.ownsRow_made (base := wn.heap.size) (e := 26) (size := 4) (wr.drewN n5) #[] 0 (by first | exact hzr | (simp; exact hzr)) (by simp [maxLen]) rfl)
                have hba := Lib.hid ((below_drewN Hbl2.out n5).alloc (by first | exact hzr | (simp; exact hzr)) (.cells #[] 26))
                have HLb := Lib.hid (HL.out.below (hba.out.mono hzB))
                have Hl1 := Lib.hid (show ((xs.take at').flatMap cellsL).length = at' * 4 by rw [flat_len cellsL 4 (fun _ => rfl), List.length_take]; omega)
                have Hl2 := Lib.hid (show ((xs.drop at').flatMap cellsL).length = (xs.length - at') * 4 by rw [flat_len cellsL 4 (fun _ => rfl), List.length_drop])
                have Hlt := Lib.hid (show (xs.take at').length = at' by rw [List.length_take]; omega)
                by_cases hcap : c = at'
                · obtain rfl : c = at' := hcap
                  go_wp2_with (first | (at_builtin; refine wpList_apr 24 26 _ 4 48 Tryd.underlying24 infoL rfl (by omega) _ _ rfl rfl wn.heap.size _ 0 _ rfl ho0.out b o c _ ((xs.take c).flatMap cellsL) rfl Hl1.out (HLb.out.head c) (cellsL_one _) (by simp [maxLen]; omega) (by omega) hba.out.size ?_; intro v7 w7 hown7 hg7; obtain ⟨_, A7, c7, rfl, _⟩ := Rd.of_own hown7; have Hb7 := Lib.hid (below_apd hba.out ho0.out hg7 (Nat.le_refl _) hba.out.size); simp only [Nat.zero_add, List.nil_append] at hown7; have Hown7 := Lib.hid hown7; clear hown7 hg7; obtain ⟨d0, d1, d2, d3⟩ := four_at ((Hb7.out.block _ hlw).trans Hnw.out)) | (at_builtin; refine wpList_apd 24 26 _ 4 48 Tryd.underlying24 infoL rfl (by omega) _ _ rfl rfl wn.heap.size _ c _ rfl Hown7.out #[.string xa, .string xb, .int .i64 xf, .int .i64 xt] 1 1 rfl rfl (by simp [Value.oneCell']) (by simp [maxLen]; omega) (by omega) (Hb7.out.size) ?_; intro v8 w8 hown8 hg8; have Hb8 := Lib.hid (below_apd Hb7.out Hown7.out hg8 (Nat.le_refl _) Hb7.out.size); obtain ⟨_, A8, c8, rfl, _⟩ := Rd.of_own hown8; have Hown8 := Lib.hid hown8; clear hown8 hg8 d0 d1 d2 d3) | (at_builtin; refine wpList_apr 24 26 _ 4 48 Tryd.underlying24 infoL rfl (by omega) _ _ rfl rfl wn.heap.size _ (c + 1) _ rfl Hown8.out b o 0 0 [] rfl rfl (by simp) (by simp) (by simp [maxLen]; omega) (by omega) (Hb8.out.size) ?_; intro v9 w9 hown9 hg9; have Hb9 := Lib.hid (below_apd Hb8.out Hown8.out hg9 (Nat.le_refl _) Hb8.out.size); obtain ⟨_, A9, c9, rfl, _⟩ := Rd.of_own hown9; have Hown9 := Lib.hid hown9; clear hown9 hg9))
                  go_ret2
                  exact RetLn_yes (by have := Hf.out; rw [List.drop_of_length_le (by omega)] at this; exact this) (OwnL.mid (ys := []) (x := ⟨xa, xb, xf, xt⟩) Hown9.out Hlt.out rfl hb0.out.size) (hb0.out.trans (Hb9.out.mono hb0.out.size))
                · go_wp2_with (first | (at_builtin; refine wpList_apr 24 26 _ 4 48 Tryd.underlying24 infoL rfl (by omega) _ _ rfl rfl wn.heap.size _ 0 _ rfl ho0.out b o at' _ ((xs.take at').flatMap cellsL) rfl Hl1.out (HLb.out.head at') (cellsL_one _) (by simp [maxLen]; omega) (by omega) hba.out.size ?_; intro v7 w7 hown7 hg7; obtain ⟨_, A7, c7, rfl, _⟩ := Rd.of_own hown7; have Hb7 := Lib.hid (below_apd hba.out ho0.out hg7 (Nat.le_refl _) hba.out.size); simp only [Nat.zero_add, List.nil_append] at hown7; have Hown7 := Lib.hid hown7; clear hown7 hg7; obtain ⟨d0, d1, d2, d3⟩ := four_at ((Hb7.out.block _ hlw).trans Hnw.out)) | (at_builtin; refine wpList_apd 24 26 _ 4 48 Tryd.underlying24 infoL rfl (by omega) _ _ rfl rfl wn.heap.size _ at' _ rfl Hown7.out #[.string xa, .string xb, .int .i64 xf, .int .i64 xt] 1 1 rfl rfl (by simp [Value.oneCell']) (by simp [maxLen]; omega) (by omega) (Hb7.out.size) ?_; intro v8 w8 hown8 hg8; have Hb8 := Lib.hid (below_apd Hb7.out Hown7.out hg8 (Nat.le_refl _) Hb7.out.size); obtain ⟨_, A8, c8, rfl, _⟩ := Rd.of_own hown8; have Hown8 := Lib.hid hown8; clear hown8 hg8 d0 d1 d2 d3) | (at_builtin; refine wpList_apr 24 26 _ 4 48 Tryd.underlying24 infoL rfl (by omega) _ _ rfl rfl wn.heap.size _ (at' + 1) _ rfl Hown8.out b (o + at' * 4) (xs.length - at') _ ((xs.drop at').flatMap cellsL) rfl Hl2.out ((HL.out.below (Hb8.out.mono hzB)).tail at' (by omega)) (cellsL_one _) (by simp [maxLen]; omega) (by omega) (Hb8.out.size) ?_; intro v9 w9 hown9 hg9; have Hb9 := Lib.hid (below_apd Hb8.out Hown8.out hg9 (Nat.le_refl _) Hb8.out.size); obtain ⟨_, A9, c9, rfl, _⟩ := Rd.of_own hown9; have Hown9 := Lib.hid hown9; clear hown9 hg9))
                  go_ret2
                  exact RetLn_yes Hf.out (OwnL.mid (x := ⟨xa, xb, xf, xt⟩) Hown9.out Hlt.out (by rw [List.length_drop]) hb0.out.size) (hb0.out.trans (Hb9.out.mono hb0.out.size))
end Go.Proofs.YtmheijnckmlbnaaDoor
/- Loans, part 16: finding a loan, both sides. -/
namespace Go.Proofs.YtmheijnckmlbnaaDoor
open Go.RowKit Go.Joins

def hits (x : Ln) (ex : ByteArray) (day : Int) : Bool := decide (x.what = ex) && inB day x.from_ x.till
theorem hit_cases (x : Ln) (ex : ByteArray) (day : Int) : ((x.what.toList == ex.toList) = false ∧ hits x ex day = false) ∨ ((x.what.toList == ex.toList) = true ∧ inB day x.from_ x.till = false ∧ hits x ex day = false) ∨
    ((x.what.toList == ex.toList) = true ∧ inB day x.from_ x.till = true ∧ hits x ex day = true) := by
  unfold hits
  by_cases h : x.what = ex
  · rw [h]
    cases inB day x.from_ x.till <;> simp
  · exact .inl ⟨beq_eq_false_iff_ne.2 fun e => h (ba_inj e), by simp [h]⟩
def findL : List Ln → ByteArray → Int → Nat → Int
  | [], _, _, _ => -1
  | x :: l, s, d, k => if hits x s d = true then (k : Int) else findL l s d (k + 1)
theorem findL_at (xs : List Ln) (s : ByteArray) (d : Int) (k : Nat) (hk : k < xs.length) : findL (xs.drop k) s d k = if hits xs[k] s d = true then (k : Int) else findL (xs.drop (k + 1)) s d (k + 1) := by
  rw [List.drop_eq_getElem_cons hk]; rfl
theorem findL_end (xs : List Ln) (s : ByteArray) (d : Int) (k : Nat) (hk : xs.length ≤ k) : findL (xs.drop k) s d k = -1 := by rw [List.drop_of_length_le hk]; rfl
theorem findL_bd (s : ByteArray) (d : Int) : ∀ (xs : List Ln) (k : Nat), findL xs s d k = -1 ∨ ∃ i, i < xs.length ∧ findL xs s d k = ((k + i : Nat) : Int) := by
  intro xs
  induction xs with
  | nil => intro k; exact .inl rfl
  | cons x l ih =>
    intro k
    unfold findL
    split
    · exact .inr ⟨0, by simp, rfl⟩
    · rcases ih (k + 1) with h | ⟨i, h1, h2⟩
      · exact .inl h
      · exact .inr ⟨i + 1, by simp; omega, by rw [h2]; congr 1; omega⟩

set_option maxRecDepth 100000 in
set_option maxHeartbeats 1600000 in
theorem loanAt_any (B : Nat) (v : Value) (xs : List Ln) (s : ByteArray) (d : Int) (w : World) (h : RdL w B v xs) (hB : B ≤ w.heap.size) (hl : xs.length ≤ 1048576) :
    Calls Tryd.prog 54 #[v, .string s, .int .i64 d] w fun e w' => e = .returned (.int .i64 (findL xs s d 0)) ∧ Below w.heap.size w w' := by
  have H := Lib.hid h
  obtain ⟨A, c, rfl⟩ := h.slice
  clear h
  have hb0 := Below.refl w.heap.size w
  go_enter Tryd.func54, Tryd.ntmps54
  go_wp2_with fail
  go_loopw [11] (fun i wr => ∃ k : Nat, k ≤ xs.length ∧ findL xs s d 0 = findL (xs.drop k) s d k ∧ i = .int .i64 (k : Int) ∧ Below w.heap.size w wr) (fun i _ => xs.length - (intOf i).toNat)
  case atStart => exact ⟨0, Nat.zero_le _, rfl, rfl, hb0⟩
  case round =>
    obtain ⟨k, hk, heq, rfl, hbl⟩ := hrel
    have Heq := Lib.hid heq; clear heq
    by_cases hlt : k < xs.length
    · obtain ⟨b1, o1, hA, hE⟩ := (H.out.below (hbl.mono hB)).at k hlt
      subst hA
      have hlt' : (k : Int) < (xs.length : Int) := by omega
      have Hst := Lib.hid (findL_at xs s d k hlt)
      generalize xs[k] = x at *
      have HB := Lib.hid (fun wx => between_any d x.from_ x.till wx)
      have hcs := hit_cases x s d
      obtain ⟨xa, xb, xf, xt⟩ := x
      obtain ⟨hbB, e0, e1, e2, e3⟩ := hE
      dsimp only at e0 e1 e2 e3 HB hcs
      have hba := Lib.hid (hbl.alloc hbl.size (.cells #[.string xa, .string xb, .int .i64 xf, .int .i64 xt] 26))
      clear hbl
      rcases hcs with ⟨g1, hf⟩ | ⟨g1, g2, hf⟩ | ⟨g1, g2, hf⟩
      · have hfin := Lib.hid (show findL xs s d 0 = findL (xs.drop (k + 1)) s d (k + 1) by rw [Heq.out, Hst.out]; exact if_neg (by rw [hf]; simp))
        clear hf
        go_wp2_with fail
        go_roundw
        case rel => exact ⟨k + 1, by omega, hfin.out, by go_num, hba.out⟩
        case measure => simp [intOf]; omega
      · have hfin := Lib.hid (show findL xs s d 0 = findL (xs.drop (k + 1)) s d (k + 1) by rw [Heq.out, Hst.out]; exact if_neg (by rw [hf]; simp))
        rw [g2] at HB
        clear hf g2
        go_wp2_with fail
        refine (HB.out _).mono ?_; rintro e w1 ⟨rfl, rfl⟩
        go_wp2_with fail
        go_roundw
        case rel => exact ⟨k + 1, by omega, hfin.out, by go_num, hba.out⟩
        case measure => simp [intOf]; omega
      · have hfin := Lib.hid (show findL xs s d 0 = (k : Int) by rw [Heq.out, Hst.out]; exact if_pos hf)
        rw [g2] at HB
        clear hf g2
        go_wp2_with fail
        refine (HB.out _).mono ?_; rintro e w1 ⟨rfl, rfl⟩
        go_wp2_with fail
        go_ret
        rw [hfin.out]; exact ⟨rfl, hba.out⟩
    · have hfin := Lib.hid (show findL xs s d 0 = -1 by rw [Heq.out, findL_end xs s d k (by omega)])
      have hlt' : (xs.length : Int) ≤ (k : Int) := by omega
      go_wp2_with fail
      go_ret
      rw [hfin.out]; exact ⟨rfl, hbl⟩

set_option maxRecDepth 100000 in
set_option maxHeartbeats 1600000 in
theorem l23Find_any (B : Nat) (v : Value) (xs : List Ln) (s : ByteArray) (d : Int) (w : World) (h : RdL w B v xs) (hl : xs.length ≤ 1048576) :
    Calls Tryd.prog 89 #[v, .string s, .int .i64 d] w fun e w' => e = .returned (.int .i64 (findL xs s d 0)) ∧ ∃ n, w' = w.drewN n := by
  have H := Lib.hid h
  obtain ⟨A, c, rfl⟩ := h.slice
  clear h
  go_enter Tryd.func89, Tryd.ntmps89
  go_wp2_with fail
  go_loopw [7] (fun i wr => ∃ k m0 : Nat, k ≤ xs.length ∧ findL xs s d 0 = findL (xs.drop k) s d k ∧ i = .int .i64 (k : Int) ∧ wr = w.drewN m0) (fun i _ => xs.length - (intOf i).toNat)
  case atStart => exact ⟨0, 0, Nat.zero_le _, rfl, rfl, rfl⟩
  case round =>
    obtain ⟨k, m0, hk, heq, rfl, hwr⟩ := hrel
    have Heq := Lib.hid heq; clear heq
    have Hw := Lib.hid (fun n => (show wr.drewN n = w.drewN (m0 + n) by rw [hwr, World.drewN_drewN]))
    have Hw0 := Lib.hid hwr
    have Hr : Hid (RdL wr B (.slice A xs.length c) xs) := Lib.hid (by rw [hwr]; exact H.out.drewN m0)
    clear hwr
    by_cases hlt : k < xs.length
    · obtain ⟨b1, o1, hA, hE⟩ := Hr.out.at k hlt
      subst hA
      have hlt' : (k : Int) < (xs.length : Int) := by omega
      have Hst := Lib.hid (findL_at xs s d k hlt)
      generalize xs[k] = x at *
      have HB := Lib.hid (fun wx => flipC (l00In_any d x.from_ x.till wx))
      have hcs := hit_cases x s d
      obtain ⟨xa, xb, xf, xt⟩ := x
      obtain ⟨hbB, e0, e1, e2, e3⟩ := hE
      dsimp only at e0 e1 e2 e3 HB hcs
      clear e1
      rcases hcs with ⟨g1, hf⟩ | ⟨g1, g2, hf⟩ | ⟨g1, g2, hf⟩
      · have hfin := Lib.hid (show findL xs s d 0 = findL (xs.drop (k + 1)) s d (k + 1) by rw [Heq.out, Hst.out]; exact if_neg (by rw [hf]; simp))
        clear hf
        go_wp2_with fail
        go_quiet (fail)
        go_wp2_with fail
        go_roundw
        case rel => exact ⟨k + 1, _, by omega, hfin.out, by go_num, Hw.out _⟩
        case measure => simp [intOf]; omega
      · have hfin := Lib.hid (show findL xs s d 0 = findL (xs.drop (k + 1)) s d (k + 1) by rw [Heq.out, Hst.out]; exact if_neg (by rw [hf]; simp))
        rw [g2] at HB
        clear hf g2
        go_wp2_with fail
        go_quiet ((go_at_call 96; exact Calls.quiet_of_same (HB.out _)))
        go_wp2_with fail
        go_roundw
        case rel => exact ⟨k + 1, _, by omega, hfin.out, by go_num, Hw.out _⟩
        case measure => simp [intOf]; omega
      · have hfin := Lib.hid (show findL xs s d 0 = (k : Int) by rw [Heq.out, Hst.out]; exact if_pos hf)
        rw [g2] at HB
        clear hf g2
        go_wp2_with fail
        go_quiet ((go_at_call 96; exact Calls.quiet_of_same (HB.out _)))
        go_wp2_with fail
        go_ret
        rw [hfin.out]; exact ⟨rfl, _, Hw.out _⟩
    · have hfin := Lib.hid (show findL xs s d 0 = -1 by rw [Heq.out, findL_end xs s d k (by omega)])
      have hlt' : (xs.length : Int) ≤ (k : Int) := by omega
      go_wp2_with fail
      go_ret
      rw [hfin.out]; exact ⟨rfl, _, Hw0.out⟩

def askLc (xs : List Ln) (s : ByteArray) (d : Int) : Int := if loansOk xs = false then 1 else if findL xs s d 0 < 0 then 3 else 0
def askLi (xs : List Ln) (s : ByteArray) (d : Int) : Int := if askLc xs s d = 0 then findL xs s d 0 else 0
theorem askL_cases (xs : List Ln) (s : ByteArray) (d : Int) : (loansOk xs = false ∧ askLc xs s d = 1 ∧ askLi xs s d = 0) ∨ (loansOk xs = true ∧ findL xs s d 0 = -1 ∧ askLc xs s d = 3 ∧ askLi xs s d = 0) ∨
    ∃ i : Nat, i < xs.length ∧ loansOk xs = true ∧ findL xs s d 0 = (i : Int) ∧ askLc xs s d = 0 ∧ askLi xs s d = (i : Int) := by
  cases h : loansOk xs with
  | false =>
    have : askLc xs s d = 1 := by unfold askLc; rw [if_pos h]
    exact .inl ⟨rfl, this, by unfold askLi; rw [this]; rfl⟩
  | true =>
    rcases findL_bd s d xs 0 with h1 | ⟨i, hi, h1⟩
    · have : askLc xs s d = 3 := by unfold askLc; rw [h, h1]; rfl
      exact .inr (.inl ⟨rfl, h1, this, by unfold askLi; rw [this]; rfl⟩)
    · rw [Nat.zero_add] at h1
      have : askLc xs s d = 0 := by unfold askLc; rw [h, h1, if_neg (by simp), if_neg (by omega)]
      exact .inr (.inr ⟨i, hi, rfl, h1, this, by unfold askLi; rw [if_pos this, h1]⟩)

set_option maxRecDepth 100000 in
set_option maxHeartbeats 1600000 in
theorem l23Ask_any (B : Nat) (v : Value) (xs : List Ln) (s : ByteArray) (d : Int) (w : World) (h : RdL w B v xs) (hl : xs.length ≤ 1048576) (hsm : ∀ x ∈ xs, smL x) :
    Calls Tryd.prog 55 #[v, .string s, .int .i64 d] w fun e w' => e = .returned (.tuple #[.int .i64 (askLi xs s d), .int .i64 (askLc xs s d)]) ∧ ∃ n, w' = w.drewN n := by
  have HV := Lib.hid (l23Ok_any B v xs w h hl hsm)
  have HF := Lib.hid (fun n => l23Find_any B v xs s d (w.drewN n) (h.drewN n) hl)
  have hcs := askL_cases xs s d
  obtain ⟨A, c, rfl⟩ := h.slice
  clear h hsm
  rcases hcs with ⟨g1, g2, g3⟩ | ⟨g1, g2, g3, g4⟩ | ⟨i, hi, g1, g2, g3, g4⟩
  · rw [g2, g3]
    rw [g1] at HV
    clear g1 g2 g3
    go_enter Tryd.func55, Tryd.ntmps55
    go_wp2_with fail
    refine HV.out.mono ?_; rintro e w1 ⟨rfl, n1, rfl⟩
    go_wp2_with fail
    go_ret2
    exact ⟨rfl, _, rfl⟩
  · rw [g3, g4]
    rw [g1] at HV
    rw [g2] at HF
    clear g1 g2 g3 g4
    go_enter Tryd.func55, Tryd.ntmps55
    go_wp2_with fail
    refine HV.out.mono ?_; rintro e w1 ⟨rfl, n1, rfl⟩
    go_wp2_with fail
    refine (HF.out n1).mono ?_; rintro e w2 ⟨rfl, n2, rfl⟩
    go_wp2_with fail
    go_ret2
    exact ⟨rfl, _, rfl⟩
  · rw [g3, g4]
    rw [g1] at HV
    rw [g2] at HF
    have hi0 : ¬ ((i : Int) < 0) := by omega
    clear g1 g2 g3 g4
    go_enter Tryd.func55, Tryd.ntmps55
    go_wp2_with fail
    refine HV.out.mono ?_; rintro e w1 ⟨rfl, n1, rfl⟩
    go_wp2_with fail
    refine (HF.out n1).mono ?_; rintro e w2 ⟨rfl, n2, rfl⟩
    go_wp2_with fail
    go_ret2
    exact ⟨rfl, _, rfl⟩
end Go.Proofs.YtmheijnckmlbnaaDoor
/- Loans, part 17: a loan ends early, both sides. -/
namespace Go.Proofs.YtmheijnckmlbnaaDoor
open Go.RowKit Go.Joins

theorem own_pos {w : World} {base n size : Nat} {e : TypeId} {v : Value} {cs : List Value} (h : w.ownsRow base e size v n cs) (hn : 0 < n) : ∃ g cap, v = .slice (some ⟨g, 0, none⟩) n cap := by
  rcases ownsRow_forms h with ⟨_, h0⟩ | ⟨g, cap, rfl⟩
  · omega
  · exact ⟨g, cap, rfl⟩
theorem own_cell {w : World} {base n size g cap : Nat} {e : TypeId} {cs : List Value} (h : w.ownsRow base e size (.slice (some ⟨g, 0, none⟩) n cap) n cs) (j : Nat) (hj : j < n * size) : ∃ u, w.cell? ⟨g, j, none⟩ = some u ∧ w.frozen? ⟨g, j, none⟩ = false := by
  obtain ⟨u, hu⟩ : ∃ u, cs[j]? = some u := ⟨_, List.getElem?_eq_getElem (by have := h.1; omega)⟩
  exact ⟨u, (h.cellAt j (by omega)).trans hu, h.frozenAt j⟩
theorem flat_set4 (xs : List Ln) (i : Nat) (hi : i < xs.length) (a b : ByteArray) (f t : Int) :
    (((((xs.flatMap cellsL).set (i * 4) (.string a)).set (i * 4 + 1) (.string b)).set (i * 4 + 2) (.int .i64 f)).set (i * 4 + 3) (.int .i64 t)) = (xs.set i ⟨a, b, f, t⟩).flatMap cellsL := by
  have e : (xs.drop i).flatMap cellsL = cellsL xs[i] ++ (xs.drop (i + 1)).flatMap cellsL := by rw [List.drop_eq_getElem_cons hi, List.flatMap_cons]
  rw [flat_part i, set4 _ _ (i * 4) (by rw [flat_len cellsL 4 (fun _ => rfl), List.length_take]; omega) (by rw [flat_len cellsL 4 (fun _ => rfl), List.length_drop]; omega), e, List.set_eq_take_append_cons_drop, if_pos hi, List.flatMap_append, List.flatMap_cons]
  simp [cellsL]
theorem flat_setT (xs : List Ln) (d : Int) : ∀ (i : Nat) (hi : i < xs.length), (xs.flatMap cellsL).set (i * 4 + 3) (.int .i64 d) = (xs.set i ⟨xs[i].what, xs[i].who, xs[i].from_, d⟩).flatMap cellsL := by
  induction xs with
  | nil => intro i hi; simp at hi
  | cons x l ih =>
    intro i hi
    cases i with
    | zero => simp [cellsL]
    | succ j =>
      have hj : j < l.length := by simpa using hi
      have e1 : ((x :: l).flatMap cellsL) = cellsL x ++ l.flatMap cellsL := by rw [List.flatMap_cons]
      have e2 : (x :: l)[j + 1] = l[j] := rfl
      rw [e1, e2, List.set_cons_succ, List.flatMap_cons, ← ih j hj, List.set_append_right _ _ (by simp [cellsL]; omega)]
      congr 2
      simp [cellsL]; omega
theorem own_loan {w : World} {base g cap : Nat} {xs : List Ln} (h : w.ownsRow base 26 4 (.slice (some ⟨g, 0, none⟩) xs.length cap) xs.length (xs.flatMap cellsL)) (i : Nat) (hi : i < xs.length) :
    w.cell? ⟨g, i * 4, none⟩ = some (.string xs[i].what) ∧ w.cell? ⟨g, i * 4 + 1, none⟩ = some (.string xs[i].who) ∧ w.cell? ⟨g, i * 4 + 2, none⟩ = some (.int .i64 xs[i].from_) ∧ w.cell? ⟨g, i * 4 + 3, none⟩ = some (.int .i64 xs[i].till) := by
  have hr : RdL w w.heap.size (.slice (some ⟨g, 0, none⟩) xs.length cap) xs := Rd.of_own h
  obtain ⟨b1, o1, hA, hE⟩ := hr.at i hi
  obtain ⟨rfl, rfl⟩ : g = b1 ∧ 0 = o1 := by simpa using hA
  rw [Nat.zero_add] at hE
  exact ⟨hE.c0, hE.c1, hE.c2, hE.c3⟩
def retR (xs : List Ln) (s : ByteArray) (d : Int) : List Ln :=
  if askLc xs s d = 0 then xs.set (askLi xs s d).toNat ⟨(atL xs (askLi xs s d).toNat).what, (atL xs (askLi xs s d).toNat).who, (atL xs (askLi xs s d).toNat).from_, d⟩ else []
theorem retR_len (xs : List Ln) (s : ByteArray) (d : Int) : (retR xs s d).length ≤ xs.length := by
  unfold retR; split <;> simp
theorem ret_cases (xs : List Ln) (s : ByteArray) (d : Int) : (loansOk xs = false ∧ askLc xs s d = 1 ∧ askLi xs s d = 0 ∧ retR xs s d = []) ∨ (loansOk xs = true ∧ findL xs s d 0 = -1 ∧ askLc xs s d = 3 ∧ askLi xs s d = 0 ∧ retR xs s d = []) ∨
    ∃ (i : Nat) (hi : i < xs.length), loansOk xs = true ∧ findL xs s d 0 = (i : Int) ∧ askLc xs s d = 0 ∧ askLi xs s d = (i : Int) ∧ retR xs s d = xs.set i ⟨xs[i].what, xs[i].who, xs[i].from_, d⟩ := by
  rcases askL_cases xs s d with ⟨h1, h2, h3⟩ | ⟨h1, h2, h3, h4⟩ | ⟨i, hi, h1, h2, h3, h4⟩
  · exact .inl ⟨h1, h2, h3, by unfold retR; rw [h2]; rfl⟩
  · exact .inr (.inl ⟨h1, h2, h3, h4, by unfold retR; rw [h3]; rfl⟩)
  · refine .inr (.inr ⟨i, hi, h1, h2, h3, h4, ?_⟩)
    unfold retR
    rw [if_pos h3, h4, Int.toNat_natCast, atL_at xs i hi]
theorem OwnL.of {w : World} {base base' n : Nat} {v : Value} {cs : List Value} {zs : List Ln} (h : w.ownsRow base' 26 4 v n cs) (hb : base ≤ base') (hn : n = zs.length) (hc : cs = zs.flatMap cellsL) : OwnL w base v zs := by
  subst hn hc
  exact ownsRow_le h hb

set_option maxRecDepth 100000 in
set_option maxHeartbeats 6400000 in
theorem ReturnI_any (B b o c : Nat) (xs : List Ln) (s : ByteArray) (d : Int) (w : World) (h : RdL w B (.slice (some ⟨b, o, none⟩) xs.length c) xs) (hB : B ≤ w.heap.size) (hl : xs.length ≤ 1048576) (hsm : ∀ x ∈ xs, smL x) (hc : xs.length ≤ c) (hc2 : c ≤ maxLen) :
    Calls Tryd.prog 15 #[.slice (some ⟨b, o, none⟩) xs.length c, .string s, .int .i64 d] w (RetLn (askLc xs s d) (retR xs s d) w) := by
  have HV := Lib.hid (ValidLoansI_any B (.slice (some ⟨b, o, none⟩) xs.length c) xs w h hB hl hsm (fun A n c' e => by injection e with _ e2 e3; exact ⟨by omega, by omega⟩))
  have HA := Lib.hid (fun wx hx hz => loanAt_any B (.slice (some ⟨b, o, none⟩) xs.length c) xs s d wx hx hz hl)
  have hcs := ret_cases xs s d
  generalize askLc xs s d = C at *
  generalize retR xs s d = R at *
  have H := Lib.hid h
  clear h hsm
  rcases hcs with ⟨g1, g2, _, g3⟩ | ⟨g1, g2, g3, _, g4⟩ | ⟨i, hi, g1, g2, g3, _, g4⟩
  · have Hf := Lib.hid (And.intro g2 g3)
    rw [g1] at HV
    clear g1 g2 g3
    go_enter Tryd.func15, Tryd.ntmps15
    go_wp2_with fail
    refine HV.out.mono ?_; rintro e w1 ⟨rfl, hb1⟩
    go_wp2_with fail
    go_ret2
    exact RetLn_no Hf.out hb1
  · have Hf := Lib.hid (And.intro g3 g4)
    rw [g1] at HV
    rw [g2] at HA
    clear g1 g2 g3 g4
    go_enter Tryd.func15, Tryd.ntmps15
    go_wp2_with fail
    refine HV.out.mono ?_; rintro e w1 ⟨rfl, hb1⟩
    go_wp2_with fail
    refine (HA.out _ (H.out.below (hb1.mono hB)) (Nat.le_trans hB hb1.size)).mono ?_; rintro e w2 ⟨rfl, hb2⟩
    go_wp2_with fail
    go_ret2
    exact RetLn_no Hf.out (hb1.trans (hb2.mono hb1.size))
  · have Hf := Lib.hid (And.intro g3 g4)
    rw [g1] at HV
    rw [g2] at HA
    have hi' : (i : Int) < (xs.length : Int) := by omega
    have hi0 : ¬ ((i : Int) < 0) := by omega
    have Hfl := Lib.hid (show (xs.flatMap cellsL).length = xs.length * 4 from flat_len cellsL 4 (fun _ => rfl) xs)
    simp only [maxLen] at hc2
    clear g1 g2 g3 g4
    go_enter Tryd.func15, Tryd.ntmps15
    go_wp2_with fail
    refine HV.out.mono ?_; rintro e w1 ⟨rfl, hb1⟩
    go_wp2_with fail
    refine (HA.out _ (H.out.below (hb1.mono hB)) (Nat.le_trans hB hb1.size)).mono ?_; rintro e w2 ⟨rfl, hb2⟩
    have hbl := hb1.trans (hb2.mono hb1.size)
    have ho0 := Lib.hid (World.ownsRow_made (base := w.heap.size) (e := 26) (size := 4) w2 #[] 0 hbl.size (by simp [maxLen]) rfl)
    have hba := Lib.hid (hbl.alloc hbl.size (.cells #[] 26))
    have HLb := Lib.hid (H.out.below (hba.out.mono hB))
    clear hb1 hb2 hbl
    go_wp2_with (at_builtin; refine wpList_apr 24 26 _ 4 48 Tryd.underlying24 infoL rfl (by omega) _ _ rfl rfl w.heap.size _ 0 _ rfl ho0.out b o xs.length _ (xs.flatMap cellsL) rfl Hfl.out HLb.out.cells (cellsL_one _) (by simp [maxLen]; omega) (by omega) hba.out.size ?_; intro v7 w7 hown7 hg7; have Hb7 := Lib.hid (below_apd hba.out ho0.out hg7 (Nat.le_refl _) hba.out.size); simp only [Nat.zero_add, List.nil_append] at hown7; obtain ⟨g, cap, rfl⟩ := own_pos hown7 (by omega); obtain ⟨u3, hc3, hf3⟩ := own_cell hown7 (i * 4 + 3) (by omega); have Ho8 := Lib.hid (hown7.stored (i * 4 + 3) (.int .i64 d)).1; have Hb8 := Lib.hid (Hb7.out.setCell (p := ⟨g, i * 4 + 3, none⟩) (hown7.lt _ rfl).1 (.int .i64 d)); clear hown7 hg7)
    go_ret2
    exact RetLn_yes Hf.out (OwnL.of Ho8.out (Nat.le_refl _) (by simp) (flat_setT xs d i hi)) Hb8.out

set_option maxRecDepth 100000 in
set_option maxHeartbeats 6400000 in
theorem ReturnS_any (B b o c : Nat) (xs : List Ln) (s : ByteArray) (d : Int) (w : World) (h : RdL w B (.slice (some ⟨b, o, none⟩) xs.length c) xs) (hB : B ≤ w.heap.size) (hl : xs.length ≤ 1048576) (hsm : ∀ x ∈ xs, smL x) :
    Calls Tryd.prog 16 #[.slice (some ⟨b, o, none⟩) xs.length c, .string s, .int .i64 d] w (RetLn (askLc xs s d) (retR xs s d) w) := by
  have HA := Lib.hid (l23Ask_any B (.slice (some ⟨b, o, none⟩) xs.length c) xs s d w h hl hsm)
  have hcs := ret_cases xs s d
  generalize askLc xs s d = C at *
  generalize askLi xs s d = I at *
  generalize retR xs s d = R at *
  have H := Lib.hid h
  clear h hsm
  have hb00 := Lib.hid (Below.refl w.heap.size w)
  rcases hcs with ⟨g1, g2, g0, g3⟩ | ⟨g1, g2, g3, g0, g4⟩ | ⟨i, hi, g1, g2, g3, g0, g4⟩
  · have Hf := Lib.hid (And.intro g2 g3)
    rw [g2, g0] at HA
    clear g0 g1 g2 g3
    go_enter Tryd.func16, Tryd.ntmps16
    go_wp2_with fail
    refine HA.out.mono ?_; rintro e w1 ⟨rfl, n1, rfl⟩
    go_wp2_with fail
    go_ret2
    exact RetLn_no Hf.out (below_drewN hb00.out n1)
  · have Hf := Lib.hid (And.intro g3 g4)
    rw [g3, g0] at HA
    clear g0 g1 g2 g3 g4
    go_enter Tryd.func16, Tryd.ntmps16
    go_wp2_with fail
    refine HA.out.mono ?_; rintro e w1 ⟨rfl, n1, rfl⟩
    go_wp2_with fail
    go_ret2
    exact RetLn_no Hf.out (below_drewN hb00.out n1)
  · have Hf := Lib.hid (And.intro g3 g4)
    rw [g3, g0] at HA
    have hi' : (i : Int) < (xs.length : Int) := by omega
    have Hfl := Lib.hid (show (xs.flatMap cellsL).length = xs.length * 4 from flat_len cellsL 4 (fun _ => rfl) xs)
    clear g0 g1 g2 g3 g4
    go_enter Tryd.func16, Tryd.ntmps16
    go_wp2_with fail
    refine HA.out.mono ?_; rintro e w1 ⟨rfl, n1, rfl⟩
    have hbl := below_drewN hb00.out n1
    generalize w.drewN n1 = w2 at *
    have ho0 := Lib.hid (World.ownsRow_made (base := w.heap.size) (e := 26) (size := 4) w2 #[] 0 hbl.size (by simp [maxLen]) rfl)
    have hba := Lib.hid (hbl.alloc hbl.size (.cells #[] 26))
    have HLb := Lib.hid (H.out.below (hba.out.mono hB))
    clear hbl
    go_wp2_with (at_builtin; refine wpList_apr 24 26 _ 4 48 Tryd.underlying24 infoL rfl (by omega) _ _ rfl rfl w.heap.size _ 0 _ rfl ho0.out b o xs.length _ (xs.flatMap cellsL) rfl Hfl.out HLb.out.cells (cellsL_one _) (by simp [maxLen]; omega) (by omega) hba.out.size ?_; intro v7 w7 hown7 hg7; have Hb7 := Lib.hid (below_apd hba.out ho0.out hg7 (Nat.le_refl _) hba.out.size); simp only [Nat.zero_add, List.nil_append] at hown7; obtain ⟨g, cap, rfl⟩ := own_pos hown7 (by omega); have Hown7 := Lib.hid hown7; clear hown7 hg7; obtain ⟨q0, q1, q2, q3⟩ := own_loan Hown7.out i hi; have ho8 := own_below Hown7.out ((Below.refl w7.heap.size w7).alloc (Nat.le_refl _) (.cells #[.string xs[i].what, .string xs[i].who, .int .i64 xs[i].from_, .int .i64 d] 26)); have hB7 := (ho8.lt _ rfl).1; have Hb8 := Lib.hid ((((((Hb7.out.alloc Hb7.out.size (.cells #[.string xs[i].what, .string xs[i].who, .int .i64 xs[i].from_, .int .i64 d] 26)).setCell (p := ⟨g, i * 4, none⟩) hB7 (.string xs[i].what)).setCell (p := ⟨g, i * 4 + 1, none⟩) hB7 (.string xs[i].who)).setCell (p := ⟨g, i * 4 + 2, none⟩) hB7 (.int .i64 xs[i].from_)).setCell (p := ⟨g, i * 4 + 3, none⟩) hB7 (.int .i64 d))); obtain ⟨u0, p0, f0⟩ := own_cell ho8 (i * 4) (by omega); obtain ⟨u1, p1, f1⟩ := own_cell ho8 (i * 4 + 1) (by omega); obtain ⟨u2, p2, f2⟩ := own_cell ho8 (i * 4 + 2) (by omega); obtain ⟨u3, p3, f3⟩ := own_cell ho8 (i * 4 + 3) (by omega); have Ho9 := Lib.hid ((((ho8.stored (i * 4) (.string xs[i].what)).1.stored (i * 4 + 1) (.string xs[i].who)).1.stored (i * 4 + 2) (.int .i64 xs[i].from_)).1.stored (i * 4 + 3) (.int .i64 d)).1; clear ho8 Hown7 Hb7)
    go_ret2
    exact RetLn_yes Hf.out (OwnL.of Ho9.out (Nat.le_refl _) (by simp) (flat_set4 xs i hi _ _ _ _)) Hb8.out
end Go.Proofs.YtmheijnckmlbnaaDoor
/- Loans: what becomes of valid lists, in plain words. -/
namespace Go.Proofs.YtmheijnckmlbnaaDoor

theorem bl_trans : ∀ a b c : List UInt8, Op.bytesLess a b = true → Op.bytesLess b c = true → Op.bytesLess a c = true
  | [], _, [], _, h => by cases ‹List UInt8› <;> simp [Op.bytesLess] at h
  | [], _, _ :: _, _, _ => by simp [Op.bytesLess]
  | _ :: _, [], _, h, _ => by simp [Op.bytesLess] at h
  | _ :: _, _ :: _, [], _, h => by simp [Op.bytesLess] at h
  | a :: x, b :: y, c :: z, h1, h2 => by
    have ih := bl_trans x y z
    simp only [Op.bytesLess, Bool.or_eq_true, Bool.and_eq_true, decide_eq_true_eq, beq_iff_eq, UInt8.lt_iff_toNat_lt] at h1 h2 ⊢
    rcases h1 with h1 | ⟨h1, h3⟩
    · rcases h2 with h2 | ⟨h2, h4⟩
      · exact .inl (by omega)
      · subst h2; exact .inl h1
    · subst h1
      rcases h2 with h2 | ⟨h2, h4⟩
      · exact .inl h2
      · exact .inr ⟨h2, ih h3 h4⟩
theorem before_trans {x y z : Ln} (h1 : before x y = true) (h2 : before y z = true) : before x z = true := by
  unfold before at *
  simp only [Bool.or_eq_true, Bool.and_eq_true, decide_eq_true_eq] at *
  rcases h1 with h1 | ⟨h1, h3⟩
  · rcases h2 with h2 | ⟨h2, h4⟩
    · exact .inl (by omega)
    · exact .inl (by omega)
  · rcases h2 with h2 | ⟨h2, h4⟩
    · exact .inl (by omega)
    · exact .inr ⟨by omega, bl_trans _ _ _ h3 h4⟩
/-- each two loans are in order and do not clash -/
structure OkP (xs : List Ln) : Prop where
  len : xs.length ≤ 60
  one : ∀ i (hi : i < xs.length), loanOk xs[i] = true
  two : ∀ i j (hi : i < xs.length) (hj : j < xs.length), i < j → before xs[i] xs[j] = true ∧ clash xs[i] xs[j] = false
theorem OkP.of {xs : List Ln} (h : loansOk xs = true) : OkP xs := by
  have hl := loansOk_len h
  unfold loansOk at h
  simp only [Bool.and_eq_true] at h
  have hp : ∀ i (hi : i < xs.length), loanOk xs[i] = true ∧ (i = 0 ∨ ∃ m, ∃ hm : m + 1 = i, before (xs[m]'(by omega)) xs[i] = true) ∧ ∀ k (hk : k < i), clash (xs[k]'(by omega)) xs[i] = false := fun i hi => by
    have h1 := chk_get h.1 hi
    unfold placeS at h1
    rw [atL_at xs i hi] at h1
    simp only [Bool.and_eq_true, Bool.or_eq_true, decide_eq_true_eq] at h1
    refine ⟨h1.1.1, ?_, fun k hk => ?_⟩
    · rcases h1.1.2 with h2 | h2
      · exact .inl h2
      · by_cases h0 : i = 0
        · exact .inl h0
        · rw [atL_at xs (i - 1) (by omega)] at h2
          exact .inr ⟨i - 1, by omega, h2⟩
    · have h2 := chk_get h1.2 hk
      unfold freeS at h2
      rw [atL_at xs i hi, atL_at xs k (by omega)] at h2
      simpa using h2
  refine ⟨hl, fun i hi => (hp i hi).1, fun i j hi hj hij => ⟨?_, (hp j hj).2.2 i hij⟩⟩
  have key : ∀ (d i : Nat) (hj : i + d + 1 < xs.length), before (xs[i]'(by omega)) xs[i + d + 1] = true := by
    intro d
    induction d with
    | zero =>
      intro i hj
      rcases (hp (i + 0 + 1) hj).2.1 with h0 | ⟨m, hm, h2⟩
      · omega
      · have : m = i := by omega
        subst this; exact h2
    | succ d ih =>
      intro i hj
      have h1 := ih i (by omega)
      rcases (hp (i + (d + 1) + 1) hj).2.1 with h0 | ⟨m, hm, h2⟩
      · omega
      · have : m = i + d + 1 := by omega
        subst this
        exact before_trans h1 h2
  have := key (j - i - 1) i (by omega)
  simpa only [show i + (j - i - 1) + 1 = j by omega] using this
theorem OkP.to {xs : List Ln} (h : OkP xs) : loansOk xs = true := by
  unfold loansOk
  simp only [Bool.and_eq_true, decide_eq_true_eq]
  refine ⟨?_, h.len⟩
  unfold chk
  rw [List.all_eq_true]
  intro i hi
  have hi := List.mem_range.1 hi
  refine place_4 hi (h.one i hi) ?_ ?_
  · rcases Nat.eq_zero_or_pos i with h0 | h0
    · exact .inl h0
    · refine .inr ⟨i - 1, by omega, ?_⟩
      rw [atL_at xs (i - 1) (by omega)]
      exact (h.two (i - 1) i (by omega) hi (by omega)).1
  · unfold chk
    rw [List.all_eq_true]
    intro k hk
    have hk := List.mem_range.1 hk
    refine free_step hi ?_
    rw [atL_at xs k (by omega)]
    exact (h.two k i (by omega) hi hk).2
theorem addC_0 {xs : List Ln} {x : Ln} (h : addC xs x = 0) : loansOk xs = true ∧ loanOk x = true ∧ chk xs.length (hitI xs x) = true ∧ xs.length < 60 := by
  unfold addC at h
  split at h
  · cases h
  · rename_i h1
    split at h
    · cases h
    · rename_i h2
      split at h
      · cases h
      · rename_i h3
        split at h
        · cases h
        · exact ⟨by simpa using h1, by simpa using h2, by simpa using h3, by omega⟩
theorem dnS_up (p : Nat → Bool) : ∀ n j, dnS p n ≤ j → j < n → p j = true := by
  intro n
  induction n with
  | zero => intro j _ h; omega
  | succ n ih =>
    intro j h1 h2
    unfold dnS at h1
    split at h1
    · rename_i h3
      by_cases e : j = n
      · subst e; exact h3
      · exact ih j h1 (by omega)
    · omega
theorem dnS_stop (p : Nat → Bool) : ∀ n, 0 < dnS p n → p (dnS p n - 1) = false := by
  intro n
  induction n with
  | zero => intro h; simp [dnS] at h
  | succ n ih =>
    intro h
    unfold dnS at h ⊢
    split
    · rename_i h3
      rw [if_pos h3] at h
      exact ih h
    · rename_i h3
      simpa using h3
theorem ins_at {xs : List Ln} {x : Ln} {k : Nat} (hk : k ≤ xs.length) (i : Nat) (hi : i < (xs.take k ++ x :: xs.drop k).length) :
    (∃ h : i < k, (xs.take k ++ x :: xs.drop k)[i] = xs[i]'(by omega)) ∨ (i = k ∧ (xs.take k ++ x :: xs.drop k)[i] = x) ∨ (∃ h : k < i, (xs.take k ++ x :: xs.drop k)[i] = xs[i - 1]'(by simp at hi; omega)) := by
  have hl : (xs.take k).length = k := by rw [List.length_take]; omega
  rcases Nat.lt_trichotomy i k with h | h | h
  · refine .inl ⟨h, ?_⟩
    rw [List.getElem_append_left (by omega), List.getElem_take]
  · refine .inr (.inl ⟨h, ?_⟩)
    subst h
    rw [List.getElem_append_right (by omega)]
    simp only [hl, Nat.sub_self, List.getElem_cons_zero]
  · refine .inr (.inr ⟨h, ?_⟩)
    rw [List.getElem_append_right (by omega)]
    simp only [hl]
    obtain ⟨m, hm⟩ : ∃ m, i - k = m + 1 := ⟨i - k - 1, by omega⟩
    simp only [hm, List.getElem_cons_succ, List.getElem_drop]
    congr 1
    omega
theorem add_facts {xs : List Ln} {x : Ln} (h : addC xs x = 0) : ∃ k, k ≤ xs.length ∧ addR xs x = xs.take k ++ x :: xs.drop k ∧ OkP xs ∧ loanOk x = true ∧ xs.length < 60 ∧
    (∀ j (hj : j < xs.length), clash x xs[j] = false) ∧ (∀ j (hj : j < xs.length), k ≤ j → before x xs[j] = true) ∧ (∀ j (hj : j < xs.length), j < k → before xs[j] x = true) := by
  obtain ⟨h1, h2, h3, h4⟩ := addC_0 h
  have hP := OkP.of h1
  have hc : ∀ j (hj : j < xs.length), clash x xs[j] = false := fun j hj => by
    have := chk_get h3 hj
    unfold hitI at this
    rw [atL_at xs j hj] at this
    simpa using this
  refine ⟨addAt xs x, addAt_le xs x, by unfold addR; rw [if_pos h], hP, h2, h4, hc, fun j hj hk => ?_, fun j hj hk => ?_⟩
  · have := dnS_up _ _ j hk hj
    rwa [atL_at xs j hj] at this
  · have h5 := addAt_le xs x
    have h6 : before (xs[addAt xs x - 1]'(by omega)) x = true := by
      have h7 := dnS_stop (fun k => before x (atL xs k)) xs.length (by show 0 < addAt xs x; omega)
      have h8 : before x (xs[addAt xs x - 1]'(by omega)) = false := by
        have e : dnS (fun k => before x (atL xs k)) xs.length = addAt xs x := rfl
        rw [e, atL_at xs (addAt xs x - 1) (by omega)] at h7
        exact h7
      have h9 := before_flip h2 (hP.one (addAt xs x - 1) (by omega)) (hc _ (by omega))
      rw [h8] at h9
      simpa using h9.symm
    by_cases e : j = addAt xs x - 1
    · subst e; exact h6
    · exact before_trans (hP.two j (addAt xs x - 1) hj (by omega) (by omega)).1 h6
theorem add_ok {xs : List Ln} {x : Ln} (h : addC xs x = 0) : loansOk (addR xs x) = true := by
  obtain ⟨k, hk, he, hP, hx, hl, hc, hu, hd⟩ := add_facts h
  rw [he]
  refine OkP.to ⟨by rw [List.length_append, List.length_cons, List.length_take, List.length_drop]; omega, fun i hi => ?_, fun i j hi hj hij => ?_⟩
  · rcases ins_at hk i hi with ⟨h1, h2⟩ | ⟨h1, h2⟩ | ⟨h1, h2⟩
    · rw [h2]; exact hP.one _ _
    · rw [h2]; exact hx
    · rw [h2]; exact hP.one _ _
  · have hcc : ∀ j (hj : j < xs.length), clash xs[j] x = false := fun j hj => by rw [clash_comm]; exact hc j hj
    have hjl : j < xs.length + 1 := by rw [List.length_append, List.length_cons, List.length_take, List.length_drop] at hj; omega
    rcases ins_at hk i hi with ⟨h1, h2⟩ | ⟨h1, h2⟩ | ⟨h1, h2⟩
    · rcases ins_at hk j hj with ⟨h3, h4⟩ | ⟨h3, h4⟩ | ⟨h3, h4⟩
      · rw [h2, h4]; exact hP.two _ _ _ _ hij
      · rw [h2, h4]; exact ⟨hd i (by omega) h1, hcc i (by omega)⟩
      · rw [h2, h4]; exact hP.two _ _ _ _ (by omega)
    · rcases ins_at hk j hj with ⟨h3, h4⟩ | ⟨h3, h4⟩ | ⟨h3, h4⟩
      · omega
      · omega
      · rw [h2, h4]; exact ⟨hu (j - 1) (by omega) (by omega), hc (j - 1) (by omega)⟩
    · rcases ins_at hk j hj with ⟨h3, h4⟩ | ⟨h3, h4⟩ | ⟨h3, h4⟩
      · omega
      · omega
      · rw [h2, h4]; exact hP.two _ _ _ _ (by omega)
end Go.Proofs.YtmheijnckmlbnaaDoor
/- Loans that are drawn: l23Draw, l23Bent. -/
namespace Go.Proofs.YtmheijnckmlbnaaDoor
open Go.RowKit Go.Joins

def smX (x : Ln) : Prop := x.what.size ≤ 16 ∧ x.who.size ≤ 16
theorem smX.sm {x : Ln} (h : smX x) : smL x := ⟨Nat.le_trans h.1 (by omega), Nat.le_trans h.2 (by omega)⟩
/-- a drawn list of loans: L bounds its length -/
structure DrM (W w : World) (B g k : Nat) (bs : List UInt8) (v : Value) (xs : List Ln) : Prop where
  dr : DrR W w B g k bs 26 4 v xs.length (xs.flatMap cellsL)
  len : xs.length ≤ 62
  sm : ∀ x ∈ xs, smX x
  nn : ∃ b c, v = .slice (some ⟨b, 0, none⟩) xs.length c
/-- .. whose days are small -/
structure DrL (W w : World) (B g k : Nat) (bs : List UInt8) (v : Value) (xs : List Ln) : Prop extends DrM W w B g k bs v xs where
  bd : ∀ x ∈ xs, 0 ≤ x.till ∧ x.till ≤ 100000
theorem DrM.draw {W w w' : World} {B g k k' : Nat} {bs : List UInt8} {v : Value} {xs : List Ln} (h : DrM W w B g k bs v xs) (hs : SrcAt w' B g k' bs) (hg : w.grownBy w' (some g)) : DrM W w' B g k' bs v xs := ⟨h.dr.draw hs hg, h.len, h.sm, h.nn⟩
theorem DrL.draw {W w w' : World} {B g k k' : Nat} {bs : List UInt8} {v : Value} {xs : List Ln} (h : DrL W w B g k bs v xs) (hs : SrcAt w' B g k' bs) (hg : w.grownBy w' (some g)) : DrL W w' B g k' bs v xs := ⟨h.toDrM.draw hs hg, h.bd⟩
theorem DrM.more {W w : World} {B g k k' : Nat} {bs : List UInt8} {v : Value} {xs : List Ln} (h : DrM W w B g k bs v xs) (hk : k ≤ k') : DrM W w B g k' bs v xs := ⟨h.dr.more hk, h.len, h.sm, h.nn⟩
theorem DrL.more {W w : World} {B g k k' : Nat} {bs : List UInt8} {v : Value} {xs : List Ln} (h : DrL W w B g k bs v xs) (hk : k ≤ k') : DrL W w B g k' bs v xs := ⟨h.toDrM.more hk, h.bd⟩
theorem DrM.below {W w w' : World} {B g k : Nat} {bs : List UInt8} {v : Value} {xs : List Ln} (h : DrM W w B g k bs v xs) (hb : Below w.heap.size w w') : DrM W w' B g k bs v xs := ⟨h.dr.below hb, h.len, h.sm, h.nn⟩
theorem DrL.below {W w w' : World} {B g k : Nat} {bs : List UInt8} {v : Value} {xs : List Ln} (h : DrL W w B g k bs v xs) (hb : Below w.heap.size w w') : DrL W w' B g k bs v xs := ⟨h.toDrM.below hb, h.bd⟩
theorem DrM.cellsAt {W w : World} {B g k b c : Nat} {bs : List UInt8} {xs : List Ln} (h : DrM W w B g k bs (.slice (some ⟨b, 0, none⟩) xs.length c) xs) (i : Nat) (hi : i < xs.length) :
    w.cell? ⟨b, i * 4, none⟩ = some (.string xs[i].what) ∧ w.cell? ⟨b, i * 4 + 1, none⟩ = some (.string xs[i].who) ∧ w.cell? ⟨b, i * 4 + 2, none⟩ = some (.int .i64 xs[i].from_) ∧ w.cell? ⟨b, i * 4 + 3, none⟩ = some (.int .i64 xs[i].till) ∧
    w.frozen? ⟨b, i * 4, none⟩ = false ∧ w.frozen? ⟨b, i * 4 + 1, none⟩ = false ∧ w.frozen? ⟨b, i * 4 + 2, none⟩ = false ∧ w.frozen? ⟨b, i * 4 + 3, none⟩ = false := by
  have hat : ∀ j u, j < 4 → (cellsL xs[i])[j]? = some u → w.cell? ⟨b, i * 4 + j, none⟩ = some u := fun j u hj hu =>
    (h.dr.row.cellAt (i * 4 + j) (by omega)).trans ((flat_at cellsL 4 (fun _ => rfl) xs i j hi hj).trans hu)
  exact ⟨hat 0 _ (by omega) rfl, hat 1 _ (by omega) rfl, hat 2 _ (by omega) rfl, hat 3 _ (by omega) rfl, h.dr.row.frozenAt _, h.dr.row.frozenAt _, h.dr.row.frozenAt _, h.dr.row.frozenAt _⟩
theorem DrM.put4 {W w : World} {B g k b c : Nat} {bs : List UInt8} {xs : List Ln} (h : DrM W w B g k bs (.slice (some ⟨b, 0, none⟩) xs.length c) xs) (i : Nat) (hi : i < xs.length) (xa xb : ByteArray) (xf xt : Int) (hx : smX ⟨xa, xb, xf, xt⟩) :
    ∃ zs, zs.length = xs.length ∧ DrM W ((((w.setCell ⟨b, i * 4, none⟩ (.string xa)).setCell ⟨b, i * 4 + 1, none⟩ (.string xb)).setCell ⟨b, i * 4 + 2, none⟩ (.int .i64 xf)).setCell ⟨b, i * 4 + 3, none⟩ (.int .i64 xt)) B g k bs (.slice (some ⟨b, 0, none⟩) xs.length c) zs := by
  obtain ⟨h1, g1⟩ := h.dr.row.stored (i * 4) (.string xa)
  obtain ⟨h2, g2⟩ := h1.stored (i * 4 + 1) (.string xb)
  obtain ⟨h3, g3⟩ := h2.stored (i * 4 + 2) (.int .i64 xf)
  obtain ⟨h4, g4⟩ := h3.stored (i * 4 + 3) (.int .i64 xt)
  rw [flat_set4 xs i hi] at h4
  refine ⟨xs.set i ⟨xa, xb, xf, xt⟩, List.length_set, ⟨h.dr.app (by rw [List.length_set]; exact h4) (grown_trans (grown_trans (grown_trans g1 g2) g3) g4), by rw [List.length_set]; exact h.len, fun x hxm => ?_, ⟨b, c, by rw [List.length_set]⟩⟩⟩
  rcases List.mem_or_eq_of_mem_set hxm with hxm | rfl
  · exact h.sm x hxm
  · exact hx
theorem DrM.putT {W w : World} {B g k b c : Nat} {bs : List UInt8} {xs : List Ln} (h : DrM W w B g k bs (.slice (some ⟨b, 0, none⟩) xs.length c) xs) (i : Nat) (hi : i < xs.length) (z : Int) :
    ∃ zs, zs.length = xs.length ∧ DrM W (w.setCell ⟨b, i * 4 + 3, none⟩ (.int .i64 z)) B g k bs (.slice (some ⟨b, 0, none⟩) xs.length c) zs := by
  obtain ⟨h1, g1⟩ := h.dr.row.stored (i * 4 + 3) (.int .i64 z)
  rw [flat_setT xs z i hi] at h1
  refine ⟨_, List.length_set, ⟨h.dr.app (by rw [List.length_set]; exact h1) g1, by rw [List.length_set]; exact h.len, fun x hxm => ?_, ⟨b, c, by rw [List.length_set]⟩⟩⟩
  rcases List.mem_or_eq_of_mem_set hxm with hxm | rfl
  · exact h.sm x hxm
  · exact h.sm xs[i] (List.getElem_mem hi)
theorem DrL.putT {W w : World} {B g k b c : Nat} {bs : List UInt8} {xs : List Ln} (h : DrL W w B g k bs (.slice (some ⟨b, 0, none⟩) xs.length c) xs) (i : Nat) (hi : i < xs.length) (z : Int) :
    ∃ zs, zs.length = xs.length ∧ DrM W (w.setCell ⟨b, i * 4 + 3, none⟩ (.int .i64 z)) B g k bs (.slice (some ⟨b, 0, none⟩) xs.length c) zs := h.toDrM.putT i hi z
theorem DrL.cellsAt {W w : World} {B g k b c : Nat} {bs : List UInt8} {xs : List Ln} (h : DrL W w B g k bs (.slice (some ⟨b, 0, none⟩) xs.length c) xs) (i : Nat) (hi : i < xs.length) :
    w.cell? ⟨b, i * 4, none⟩ = some (.string xs[i].what) ∧ w.cell? ⟨b, i * 4 + 1, none⟩ = some (.string xs[i].who) ∧ w.cell? ⟨b, i * 4 + 2, none⟩ = some (.int .i64 xs[i].from_) ∧ w.cell? ⟨b, i * 4 + 3, none⟩ = some (.int .i64 xs[i].till) ∧
    w.frozen? ⟨b, i * 4, none⟩ = false ∧ w.frozen? ⟨b, i * 4 + 1, none⟩ = false ∧ w.frozen? ⟨b, i * 4 + 2, none⟩ = false ∧ w.frozen? ⟨b, i * 4 + 3, none⟩ = false := h.toDrM.cellsAt i hi
theorem DrL.put4 {W w : World} {B g k b c : Nat} {bs : List UInt8} {xs : List Ln} (h : DrL W w B g k bs (.slice (some ⟨b, 0, none⟩) xs.length c) xs) (i : Nat) (hi : i < xs.length) (xa xb : ByteArray) (xf xt : Int) (hx : smX ⟨xa, xb, xf, xt⟩) :
    ∃ zs, zs.length = xs.length ∧ DrM W ((((w.setCell ⟨b, i * 4, none⟩ (.string xa)).setCell ⟨b, i * 4 + 1, none⟩ (.string xb)).setCell ⟨b, i * 4 + 2, none⟩ (.int .i64 xf)).setCell ⟨b, i * 4 + 3, none⟩ (.int .i64 xt)) B g k bs (.slice (some ⟨b, 0, none⟩) xs.length c) zs := h.toDrM.put4 i hi xa xb xf xt hx
theorem addR_mem {xs : List Ln} {x : Ln} : ∀ y ∈ addR xs x, y ∈ xs ∨ y = x := by
  unfold addR
  split
  · intro y hy
    rcases List.mem_append.1 hy with hy | hy
    · exact .inl (List.mem_of_mem_take hy)
    · rcases List.mem_cons.1 hy with hy | hy
      · exact .inr hy
      · exact .inl (List.mem_of_mem_drop hy)
  · simp
theorem loans_bd {xs : List Ln} (h : loansOk xs = true) : ∀ x ∈ xs, 0 ≤ x.till ∧ x.till ≤ 100000 := by
  intro x hx
  obtain ⟨i, hi, rfl⟩ := List.mem_iff_getElem.1 hx
  have := (OkP.of h).one i hi
  unfold loanOk inB at this
  simp only [Bool.and_eq_true, decide_eq_true_eq] at this
  omega
theorem own_cap3 {w : World} {base n m c size : Nat} {e : TypeId} {A : Option Addr} {cs : List Value} (h : w.ownsRow base e size (.slice A m c) n cs) : m ≤ c ∧ c ≤ maxLen := by
  rcases h.2 with ⟨h0, _⟩ | ⟨g, cap, _, hv, _, _, h1, h2, _⟩
  · injection h0 with _ h1 h2
    subst h1 h2
    exact ⟨Nat.le_refl _, Nat.zero_le _⟩
  · injection hv with _ h3 h4
    subst h3 h4
    exact ⟨h1, h2⟩
theorem DrM.rd {W w : World} {B g k : Nat} {bs : List UInt8} {v : Value} {xs : List Ln} (h : DrM W w B g k bs v xs) : RdL w w.heap.size v xs := Rd.of_own h.dr.row
def RetLd (w : World) (B g k : Nat) (bs : List UInt8) (e : Ending) (w' : World) : Prop := ∃ v xs, e = .returned v ∧ DrL w w' B g k bs v xs ∧ loansOk xs = true
def RetLb (w : World) (B g k : Nat) (bs : List UInt8) (e : Ending) (w' : World) : Prop := ∃ v xs, e = .returned v ∧ DrM w w' B g k bs v xs
theorem RetLb.of2 {w w' : World} {B g k n : Nat} {bs : List UInt8} {v : Value} {xs : List Ln} {e : Ending} (h : DrM w w' B g k bs v xs) (he : e = .returned v) (hk : k ≤ n) : RetLb w B g n bs e w' := ⟨v, xs, he, h.more hk⟩
theorem RetLb.of {w w' : World} {B g k n : Nat} {bs : List UInt8} {v : Value} {xs : List Ln} {e : Ending} (h : DrL w w' B g k bs v xs) (he : e = .returned v) (hk : k ≤ n) : RetLb w B g n bs e w' := ⟨v, xs, he, h.toDrM.more hk⟩
theorem loans_60' {xs : List Ln} (h : loansOk xs = true) : xs.length ≤ 60 := (OkP.of h).len
/-- the loan that is added comes into the list -/
theorem DrL.add {W w1 w' : World} {B g k : Nat} {bs : List UInt8} {v v' : Value} {xs : List Ln} {x : Ln} (h : DrL W w1 B g k bs v xs) (hx : smX x) (h0 : addC xs x = 0) (ho : OwnL w' w1.heap.size v' (addR xs x)) (hb : Below w1.heap.size w1 w') : DrL W w' B g k bs v' (addR xs x) := by
  have hok := add_ok h0
  have h60 := loans_60' hok
  have hn : 0 < (addR xs x).length := by
    obtain ⟨j, hj, he, _⟩ := add_facts h0
    rw [he, List.length_append, List.length_cons]; omega
  refine ⟨⟨⟨h.dr.lt, h.dr.src.below hb, ownsRow_le ho h.dr.size, grown_below h.dr.gr hb⟩, by omega, fun y hy => ?_, ?_⟩, loans_bd hok⟩
  · rcases addR_mem y hy with hy | rfl
    · exact h.sm y hy
    · exact hx
  · obtain ⟨b, c, hv, _⟩ := own_posC ho hn
    exact ⟨b, c, hv⟩

theorem ones4d (a b : ByteArray) (f t : Int) : ∀ u ∈ (#[Value.string a, Value.string b, .int .i64 f, .int .i64 t] : Array Value).toList, u.oneCell' = true := by
  simp [Value.oneCell']
theorem DrL.snocE {W w w' : World} {B g k : Nat} {bs : List UInt8} {v v' : Value} {xs : List Ln} (h : DrL W w B g k bs v xs) (hl : xs.length < 62)
    (hr : w'.ownsRow W.heap.size 26 4 v' (xs.length + 1) (xs.flatMap cellsL ++ (#[Value.string ⟨#[97, 98, 97, 99, 117, 115]⟩, .string ⟨#[98, 111, 110, 110]⟩, .int .i64 (2 * (xs.length : Int)), .int .i64 (2 * (xs.length : Int) + 1)] : Array Value).toList)) (hg : w.grownBy w' v.ownBlock) :
    ∃ zs, zs.length = xs.length + 1 ∧ DrL W w' B g k bs v' zs := by
  have e : xs.flatMap cellsL ++ (#[Value.string ⟨#[97, 98, 97, 99, 117, 115]⟩, .string ⟨#[98, 111, 110, 110]⟩, .int .i64 (2 * (xs.length : Int)), .int .i64 (2 * (xs.length : Int) + 1)] : Array Value).toList = (xs ++ [(⟨⟨#[97, 98, 97, 99, 117, 115]⟩, ⟨#[98, 111, 110, 110]⟩, 2 * (xs.length : Int), 2 * (xs.length : Int) + 1⟩ : Ln)]).flatMap cellsL := by
    rw [List.flatMap_append]; simp [cellsL]
  rw [e] at hr
  have hlen : (xs ++ [(⟨⟨#[97, 98, 97, 99, 117, 115]⟩, ⟨#[98, 111, 110, 110]⟩, 2 * (xs.length : Int), 2 * (xs.length : Int) + 1⟩ : Ln)]).length = xs.length + 1 := by simp
  refine ⟨_, hlen, ⟨⟨h.dr.app (by rw [hlen]; exact hr) hg, by rw [hlen]; omega, fun y hy => ?_, ?_⟩, fun y hy => ?_⟩⟩
  · rcases List.mem_append.1 hy with hy | hy
    · exact h.sm y hy
    · rw [List.mem_singleton.1 hy]; exact ⟨show (⟨#[97, 98, 97, 99, 117, 115]⟩ : ByteArray).size ≤ 16 by decide, show (⟨#[98, 111, 110, 110]⟩ : ByteArray).size ≤ 16 by decide⟩
  · obtain ⟨b, c, hv, _⟩ := own_posC hr (by omega)
    exact ⟨b, c, by rw [hv, hlen]⟩
  · rcases List.mem_append.1 hy with hy | hy
    · exact h.bd y hy
    · rw [List.mem_singleton.1 hy]
      dsimp only
      omega

set_option maxRecDepth 100000 in
set_option maxHeartbeats 3200000 in
theorem l23Draw_any (B g k : Nat) (bs : List UInt8) (w : World) (hs : SrcAt w B g k bs) (hk : k + 200 ≤ 4611686018427380000) :
    Calls Tryd.prog 62 #[.pointer (some ⟨g, 0, none⟩)] w (RetLd w B g (k + 98) bs) := by
  have HD0 := Lib.hid (show DrL w (w.alloc (.cells #[] 26)) B g k bs (.slice (some ⟨w.heap.size, 0, none⟩) 0 0) [] from ⟨⟨DrR.made hs _ _, by simp, fun x hx => (by cases hx), _, _, rfl⟩, fun x hx => (by cases hx)⟩)
  clear hs
  go_enter Tryd.func62, Tryd.ntmps62
  go_wp2_with fail
  refine (pick_any B g k bs 9 _ HD0.out.dr.src (by omega)).mono ?_; rintro e w1 ⟨x, rfl, ⟨hx0, hx1, _⟩, hs1, hg1⟩
  obtain ⟨c, rfl⟩ : ∃ c : Nat, x = (c : Int) := ⟨x.toNat, by omega⟩
  have hc8 : c ≤ 8 := by have := hx1 (by omega); omega
  have HD1 := Lib.hid (HD0.out.draw hs1 hg1)
  clear hx1 hs1 hg1 HD0
  go_wp2_with fail
  go_loopw [3, 4] (fun o i wr => ∃ (j : Nat) (xs : List Ln), j ≤ c ∧ i = .int .i64 (j : Int) ∧ DrL w wr B g (k + 2 + (8 - j) * 12) bs o xs ∧ loansOk xs = true) (fun _ i _ => (intOf i).toNat)
  case atStart => exact ⟨c, [], Nat.le_refl _, rfl, HD1.out.more (by omega), rfl⟩
  case round =>
    obtain ⟨j, xs, hjc, rfl, hd, hok⟩ := hrel
    obtain ⟨b0, c0, rfl⟩ := hd.nn
    have HD := Lib.hid hd
    have Hok := Lib.hid hok
    have hxl := hd.len
    clear hd HD1 hok
    by_cases hj : 0 < j
    · have hj' : (0 : Int) < (j : Int) := by omega
      have hjj : (j : Int) - 1 = ((j - 1 : Nat) : Int) := by omega
      have Hjj := Lib.hid hjj; clear hjj
      have hKK : (8 - (j - 1)) * 12 = (8 - j) * 12 + 12 := by omega
      have HKK := Lib.hid hKK; clear hKK
      have hKm : (8 - j) * 12 ≤ 96 := by omega
      generalize (8 - j) * 12 = K at *
      go_wp2_with fail
      refine (l23New_any B g _ bs _ HD.out.dr.src (by omega)).mono ?_; rintro e w2 ⟨x, rfl, hxa, hxb, hs2, hg2⟩
      have Hx := Lib.hid (show smX x from ⟨by omega, by omega⟩)
      have HD2 := Lib.hid (HD.out.draw hs2 hg2)
      obtain ⟨hcap, hcap2⟩ := own_cap3 HD2.out.dr.row
      have HA := Lib.hid (AddS_any w2.heap.size b0 0 c0 xs x w2 HD2.out.rd (Nat.le_refl _) (by omega) (fun y hy => (HD2.out.sm y hy).sm) Hx.out.sm hcap hcap2)
      have Hadd := Lib.hid (fun (v' : Value) (w' : World) h0 ho hb => DrL.add (v' := v') (w' := w') HD2.out Hx.out h0 ho hb)
      have Haok := Lib.hid (fun h => add_ok (xs := xs) (x := x) h)
      unfold RetLn at HA
      by_cases h0 : addC xs x = 0
      · rw [h0] at HA
        have Haok2 := Lib.hid (Haok.out h0)
        have Hadd2 := Lib.hid (fun v' w' => Hadd.out v' w' h0)
        clear hs2 hg2 HD hxa hxb hcap hcap2 Haok Hadd h0
        generalize addR xs x = ys at *
        obtain ⟨xa, xb, xf, xt⟩ := x
        go_wp2_with fail
        refine HA.out.mono ?_; rintro e w3 ⟨v3, rfl, ho3, hb3⟩
        have HD3 := Lib.hid (Hadd2.out v3 w3 ho3 hb3)
        obtain ⟨b3, c3, rfl⟩ := HD3.out.nn
        clear ho3 hb3 Hadd2 HA
        go_wp2_with fail
        go_roundw
        case rel => exact ⟨j - 1, ys, by omega, by rw [Hjj.out], by rw [HKK.out]; exact HD3.out.more (by omega), Haok2.out⟩
        case measure => simp [intOf]; omega
      · have hne : (addC xs x == 0) = false := by rw [beq_eq_false_iff_ne]; exact h0
        clear hs2 hg2 HD hxa hxb hcap hcap2 Haok Hadd h0
        generalize addC xs x = C at *
        generalize addR xs x = ys at *
        obtain ⟨xa, xb, xf, xt⟩ := x
        go_wp2_with fail
        refine HA.out.mono ?_; rintro e w3 ⟨v3, rfl, ho3, hb3⟩
        have HD3 := Lib.hid (HD2.out.below hb3)
        obtain ⟨A3, c3, rfl⟩ := OwnL.slice ho3
        clear ho3 hb3 HA
        go_wp2_with fail
        go_roundw
        case rel => exact ⟨j - 1, xs, by omega, by rw [Hjj.out], by rw [HKK.out]; exact HD3.out.more (by omega), Hok.out⟩
        case measure => simp [intOf]; omega
    · have hj0 : j = 0 := by omega
      subst hj0
      go_wp2_with fail
      go_ret
      exact ⟨_, xs, rfl, HD.out.more (by omega), Hok.out⟩

set_option maxRecDepth 100000 in
set_option maxHeartbeats 6400000 in
theorem l23Bent_any (B g k : Nat) (bs : List UInt8) (w : World) (hs : SrcAt w B g k bs) (hk : k + 300 ≤ 4611686018427380000) :
    Calls Tryd.prog 43 #[.pointer (some ⟨g, 0, none⟩)] w (RetLb w B g (k + 200) bs) := by
  have H := Lib.hid hs
  have hlt := hs.lt
  clear hs
  go_enter Tryd.func43, Tryd.ntmps43
  go_wp2_with fail
  refine (l23Draw_any B g k bs _ H.out (by omega)).mono ?_; rintro e w1 ⟨v, xs, rfl, hd1, _⟩
  obtain ⟨b0, c0, rfl⟩ := hd1.nn
  have HD1 := Lib.hid hd1
  clear hd1 H
  go_wp2_with fail
  refine (one_any B g _ bs 24 _ HD1.out.dr.src (by omega)).mono ?_; rintro e w2 ⟨y, rfl, hs2, hg2⟩
  have HD2 := Lib.hid (HD1.out.draw hs2 hg2)
  clear hs2 hg2 HD1
  cases y with
  | false =>
    have hxl := HD2.out.len
    by_cases hl0 : xs.length = 0
    · have h00 : ((xs.length : Int) == 0) = true := by rw [beq_iff_eq]; omega
      have Hl0 := Lib.hid hl0; clear hl0
      go_wp2_with fail
      go_ret
      have hfin := HD2.out
      exact RetLb.of hfin rfl (by omega)
    have h00 : ((xs.length : Int) == 0) = false := by rw [beq_eq_false_iff_ne]; omega
    go_wp2_with fail
    refine (pick_any B g _ bs _ _ HD2.out.dr.src (by omega)).mono ?_; rintro e wp ⟨x, rfl, ⟨hx0, hx1, hx2⟩, hs2, hg2⟩
    obtain ⟨i, rfl⟩ : ∃ i : Nat, x = i := ⟨x.toNat, by omega⟩
    have hi : i < xs.length := by
      by_cases h1 : xs.length = 1
      · have := hx2 (by omega); omega
      · have := hx1 (by omega); omega
    have hi' : (i : Int) < (xs.length : Int) := by omega
    have HE2 := Lib.hid (HD2.out.draw hs2 hg2)
    clear hs2 hg2 hx1 hx2 HD2
    go_wp2_with fail
    refine (pick_any B g _ bs 16 _ HE2.out.dr.src (by omega)).mono ?_; rintro e wq ⟨x, rfl, ⟨hx0, hx1, hx2⟩, hs3, hg3⟩
    have HE3 := Lib.hid (HE2.out.draw hs3 hg3)
    clear hs3 hg3 hx1 hx2 HE2
    by_cases e0 : x = 0
    · subst e0
      go_wp2_with fail
      refine (l23New_any B g _ bs _ HE3.out.dr.src (by omega)).mono ?_; rintro e ws ⟨⟨xa, xb, xf, xt⟩, rfl, hxa, hxb, hs4, hg4⟩
      have HE4 := Lib.hid (HE3.out.draw hs4 hg4)
      obtain ⟨p0, p1, p2, p3, q0, q1, q2, q3⟩ := HE4.out.cellsAt i hi
      obtain ⟨zs, hzl, hd5⟩ := HE4.out.put4 i hi xa xb xf xt ⟨show xa.size ≤ 16 from Nat.le_trans hxa (by omega), show xb.size ≤ 16 from Nat.le_trans hxb (by omega)⟩
      have HE5 := Lib.hid hd5
      clear hs4 hg4 HE3 hzl hd5 hxa hxb
      go_wp2_with fail
      go_ret
      have hfin := HE5.out
      exact RetLb.of2 hfin rfl (by omega)
    have hq0 : (x == 0) = false := by simpa using e0
    by_cases e1 : x = 1
    · subst e1
      obtain ⟨p0, p1, p2, p3, q0, q1, q2, q3⟩ := HE3.out.cellsAt i hi
      obtain ⟨ht0, ht1⟩ := HE3.out.bd xs[i] (List.getElem_mem hi)
      have Hput := Lib.hid (fun z k' w' (hs : SrcAt w' B g k' bs) (hg : wq.grownBy w' (some g)) => (HE3.out.draw hs hg).putT i hi z)
      have HP := Lib.hid (pick_any B g _ bs 30 wq.drew (SrcAt.drew HE3.out.dr.src) (by omega))
      have hbg : b0 ≠ g := by have := (HE3.out.dr.row.lt b0 rfl).1; have := HE3.out.dr.lt; omega
      have hblt := (HE3.out.dr.row.lt b0 rfl).2
      generalize xs[i].till = T at *
      clear p0 p1 p2 q0 q1 q2
      have hiz : (0 : Int) ≤ (i : Int) := by omega
      go_wp2_with fail
      refine wp_region_noPanic ?_
      refine wp_region_L [10] (fun w' => w'.cell? ⟨b0, i * 4 + 3, none⟩ = some (.int .i64 T)) (by kernel_rfl) (p3) (fun hHeld => ?_)
      refine take_F (i := 0) (d := some 49) (v := ?_) (by kernel_rfl) (by kernel_rfl) rfl rfl (by kernel_rfl) (by kernel_rfl) (by kernel_rfl) (fun _ _ _ h => h) (Or.inl ⟨by rfl, ?_⟩) (by assumption) ?_
      rotate_left
      · (intro w hSw; (try dsimp only at hSw); go_simp; (try rw [if_neg (by omega)]); (try (with_reducible rfl)))
      simp only [Act.put, List.setIfInBounds_toArray, List.set_cons_zero, List.set_cons_succ]
      refine take_F (i := 1) (d := some 50) (v := ?_) (by kernel_rfl) (by kernel_rfl) rfl rfl (by kernel_rfl) (by kernel_rfl) (by kernel_rfl) (fun _ _ _ h => h) (Or.inl ⟨by rfl, ?_⟩) (by assumption) ?_
      rotate_left
      · (intro w hSw; (try dsimp only at hSw); go_simp; (try rw [if_neg (by omega)]); (try (with_reducible rfl)))
      simp only [Act.put, List.setIfInBounds_toArray, List.set_cons_zero, List.set_cons_succ]
      refine take_F (i := 2) (d := some 51) (v := ?_) (by kernel_rfl) (by kernel_rfl) rfl rfl (by kernel_rfl) (by kernel_rfl) (by kernel_rfl) (fun _ _ _ h => h) (Or.inl ⟨by rfl, ?_⟩) (by assumption) ?_
      rotate_left
      · (intro w hSw; (try dsimp only at hSw); go_simp; (try rw [if_neg (by omega)]); (try (with_reducible rfl)))
      simp only [Act.put, List.setIfInBounds_toArray, List.set_cons_zero, List.set_cons_succ]
      refine take_F (i := 3) (d := some 52) (v := ?_) (by kernel_rfl) (by kernel_rfl) rfl rfl (by kernel_rfl) (by kernel_rfl) (by kernel_rfl) (fun _ _ _ h => h) (Or.inl ⟨by rfl, ?_⟩) (by assumption) ?_
      rotate_left
      · (intro w hSw; (try dsimp only at hSw); go_simp; (try rw [if_neg (by omega)]); (try (with_reducible rfl)))
      simp only [Act.put, List.setIfInBounds_toArray, List.set_cons_zero, List.set_cons_succ]
      refine take_L [4] (i := 4) (d := some 53) (v := ?_) (by kernel_rfl) (by kernel_rfl) (by kernel_rfl) (by kernel_rfl) rfl rfl (by kernel_rfl) (by kernel_rfl) (by kernel_rfl) (fun _ _ _ h => h) (Or.inl ⟨by rfl, ?_⟩) (by assumption) ?_
      rotate_left
      · (intro w hSw; (try dsimp only at hSw); go_simp; (try rw [if_neg (by omega)]); (try (with_reducible rfl)))
      simp only [Act.put, List.setIfInBounds_toArray, List.set_cons_zero, List.set_cons_succ]
      refine take_F (i := 5) (d := some 54) (v := ?_) (by kernel_rfl) (by kernel_rfl) rfl rfl (by kernel_rfl) (by kernel_rfl) (by kernel_rfl) (fun _ _ _ h => h) (Or.inl ⟨by rfl, ?_⟩) (by assumption) ?_
      rotate_left
      · (intro w hSw; (try dsimp only at hSw); go_simp; (try rw [if_neg (by omega)]); (try (with_reducible rfl)))
      simp only [Act.put, List.setIfInBounds_toArray, List.set_cons_zero, List.set_cons_succ]
      refine call_L (i := 6) (d := (some 55)) rfl rfl (by kernel_rfl) (fun Kq hKq => ?_)
      go_simp
      go_at_call 66
      refine HP.out.mono ?_; rintro e ws ⟨y, rfl, ⟨hy0, hy1, _⟩, hs5, hg5⟩
      have hy30 := hy1 (by omega)
      have q5 := (World.cell?_of_block (a := ⟨b0, i * 4 + 3, none⟩) (hg5.block b0 (by simpa using hblt) (fun e => hbg (by injection e)))).trans p3
      have f5 := (World.frozen?_of_block (a := ⟨b0, i * 4 + 3, none⟩) (hg5.block b0 (by simpa using hblt) (fun e => hbg (by injection e)))).trans q3
      obtain ⟨zs, hzl, hd6⟩ := Hput.out (T + y) _ _ hs5 (grown_undrew hg5)
      have HE6 := Lib.hid hd6
      have hwr : IntKind.i64.wrap (T + y) = T + y := IntWalk.i64_in _ (by omega)
      clear hs5 hg5 hy1 hzl hd6 p3 q3
      (try go_wp2_with fail)
      refine hKq.out _ _ (q5) (fun hHeld => ?_)
      clear hKq Kq
      (try simp only [Act.put, List.setIfInBounds_toArray, List.set_cons_zero, List.set_cons_succ])
      refine take_F (i := 7) (d := some 56) (v := ?_) (by kernel_rfl) (by kernel_rfl) rfl rfl (by kernel_rfl) (by kernel_rfl) (by kernel_rfl) (fun _ _ _ h => h) (Or.inl ⟨by rfl, ?_⟩) (by assumption) ?_
      rotate_left
      · (intro w hSw; (try dsimp only at hSw); go_simp; (try rw [if_neg (by omega)]); (try (with_reducible rfl)))
      simp only [Act.put, List.setIfInBounds_toArray, List.set_cons_zero, List.set_cons_succ]
      refine take_F (i := 8) (d := some 57) (v := ?_) (by kernel_rfl) (by kernel_rfl) rfl rfl (by kernel_rfl) (by kernel_rfl) (by kernel_rfl) (fun _ _ _ h => h) (Or.inl ⟨by rfl, ?_⟩) (by assumption) ?_
      rotate_left
      · (intro w hSw; (try dsimp only at hSw); go_simp; (try rw [if_neg (by omega)]); (try (with_reducible rfl)))
      simp only [Act.put, List.setIfInBounds_toArray, List.set_cons_zero, List.set_cons_succ]
      refine take_F (i := 9) (d := some 58) (v := ?_) (by kernel_rfl) (by kernel_rfl) rfl rfl (by kernel_rfl) (by kernel_rfl) (by kernel_rfl) (fun _ _ _ h => h) (Or.inl ⟨by rfl, ?_⟩) (by assumption) ?_
      rotate_left
      · (intro w hSw; (try dsimp only at hSw); go_simp; (try rw [if_neg (by omega)]); (try (with_reducible rfl)))
      simp only [Act.put, List.setIfInBounds_toArray, List.set_cons_zero, List.set_cons_succ]
      refine late_L (i := 10) (d := none) (by kernel_rfl) rfl rfl (by kernel_rfl) (fun Kq hKq => ?_)
      go_simp
      refine hKq.out _ _ ?_
      clear hKq Kq
      refine done_L (by kernel_rfl) ?_ _
      refine NoPanic.normal ?_
      clear q5 f5 HE3 HP Hput hwr
      go_wp2_with fail
      go_ret
      have hfin := HE6.out
      exact RetLb.of2 hfin rfl (by omega)
    have hq1 : (x == 1) = false := by simpa using e1
    go_wp2_with fail
    go_ret
    have hfin := HE3.out
    exact RetLb.of hfin rfl (by omega)
  | true =>
    have HM := Lib.hid (show DrL w (w2.alloc (.cells #[] 26)) B g (k + 98 + 2) bs (.slice (some ⟨w2.heap.size, 0, none⟩) 0 0) [] from
      ⟨⟨DrR.from (W' := w2) (DrR.made HD2.out.dr.src _ _) HD2.out.dr.gr hlt, by simp, fun x hx => (by cases hx), _, _, rfl⟩, fun x hx => (by cases hx)⟩)
    clear HD2
    go_wp2_with fail
    refine (pick_any B g _ bs 2 _ HM.out.dr.src (by omega)).mono ?_; rintro e w4 ⟨y, rfl, ⟨hy0, hy1, _⟩, hs4, hg4⟩
    have hy2 := hy1 (by omega)
    obtain ⟨c, hc, hc4⟩ : ∃ c : Nat, 60 + y = (c : Int) ∧ c ≤ 61 := ⟨(60 + y).toNat, by omega, by omega⟩
    have HD4 := Lib.hid (HM.out.draw hs4 hg4)
    clear hs4 hg4 hy1 HM
    go_wp2_with fail
    (try rw [hc])
    clear hc
    go_loopw [3, 4] (fun o i wr => ∃ (j : Nat) (xs : List Ln), j + xs.length = c ∧ i = .int .i64 (j : Int) ∧ DrL w wr B g (k + 98 + 2 + 2) bs o xs) (fun _ i _ => (intOf i).toNat)
    case atStart => exact ⟨c, [], by simp, rfl, HD4.out⟩
    case round =>
      obtain ⟨j, xs, hjc, rfl, hp⟩ := hrel
      obtain ⟨b0, c0, rfl⟩ := hp.nn
      have HP := Lib.hid hp
      have hll2 := hp.len
      have hj61 : j ≤ 61 := by omega
      have Hjc := Lib.hid hjc
      clear hp HD4
      by_cases hj : 0 < j
      · have hj' : (0 : Int) < (j : Int) := by omega
        have hjj : (j : Int) - 1 = ((j - 1 : Nat) : Int) := by omega
        have Hjj := Lib.hid hjj; clear hjj hjc
        have Hon := Lib.hid (ones4d ⟨#[97, 98, 97, 99, 117, 115]⟩ ⟨#[98, 111, 110, 110]⟩ (2 * (xs.length : Int)) (2 * (xs.length : Int) + 1))
        go_wp2_with (at_builtin; refine wpList_apd 24 26 _ 4 48 Tryd.underlying24 infoL rfl (by omega) _ _ rfl rfl w.heap.size _ _ _ rfl HP.out.dr.row #[.string ⟨#[97, 98, 97, 99, 117, 115]⟩, .string ⟨#[98, 111, 110, 110]⟩, .int .i64 (2 * (xs.length : Int)), .int .i64 (2 * (xs.length : Int) + 1)] 1 1 rfl rfl Hon.out (by simp [maxLen]; omega) (by omega) HP.out.dr.size ?_; intro v7 w7 hown7 hg7; obtain ⟨zs7, hzl7, hd7⟩ := HP.out.snocE (by have := Hjc.out; omega) hown7 hg7; have HD7 := Lib.hid hd7; have Hzl7 := Lib.hid hzl7; obtain ⟨b7, cp7, rfl⟩ := hd7.nn; clear hown7 hg7 hd7 hzl7)
        go_roundw
        case rel => exact ⟨j - 1, zs7, by have := Hjc.out; have := Hzl7.out; omega, by rw [Hjj.out], HD7.out⟩
        case measure => simp [intOf]; omega
      · have hj0 : j = 0 := by omega
        subst hj0
        clear hjc Hjc hll2
        have hxl := HP.out.len
        by_cases hl0 : xs.length = 0
        · have h00 : ((xs.length : Int) == 0) = true := by rw [beq_iff_eq]; omega
          have Hl0 := Lib.hid hl0; clear hl0
          go_wp2_with fail
          go_ret
          have hfin := HP.out
          exact RetLb.of hfin rfl (by omega)
        have h00 : ((xs.length : Int) == 0) = false := by rw [beq_eq_false_iff_ne]; omega
        go_wp2_with fail
        refine (pick_any B g _ bs _ _ HP.out.dr.src (by omega)).mono ?_; rintro e wp ⟨x, rfl, ⟨hx0, hx1, hx2⟩, hs2, hg2⟩
        obtain ⟨i, rfl⟩ : ∃ i : Nat, x = i := ⟨x.toNat, by omega⟩
        have hi : i < xs.length := by
          by_cases h1 : xs.length = 1
          · have := hx2 (by omega); omega
          · have := hx1 (by omega); omega
        have hi' : (i : Int) < (xs.length : Int) := by omega
        have HE2 := Lib.hid (HP.out.draw hs2 hg2)
        clear hs2 hg2 hx1 hx2 HP
        go_wp2_with fail
        refine (pick_any B g _ bs 16 _ HE2.out.dr.src (by omega)).mono ?_; rintro e wq ⟨x, rfl, ⟨hx0, hx1, hx2⟩, hs3, hg3⟩
        have HE3 := Lib.hid (HE2.out.draw hs3 hg3)
        clear hs3 hg3 hx1 hx2 HE2
        by_cases e0 : x = 0
        · subst e0
          go_wp2_with fail
          refine (l23New_any B g _ bs _ HE3.out.dr.src (by omega)).mono ?_; rintro e ws ⟨⟨xa, xb, xf, xt⟩, rfl, hxa, hxb, hs4, hg4⟩
          have HE4 := Lib.hid (HE3.out.draw hs4 hg4)
          obtain ⟨p0, p1, p2, p3, q0, q1, q2, q3⟩ := HE4.out.cellsAt i hi
          obtain ⟨zs, hzl, hd5⟩ := HE4.out.put4 i hi xa xb xf xt ⟨show xa.size ≤ 16 from Nat.le_trans hxa (by omega), show xb.size ≤ 16 from Nat.le_trans hxb (by omega)⟩
          have HE5 := Lib.hid hd5
          clear hs4 hg4 HE3 hzl hd5 hxa hxb
          go_wp2_with fail
          go_ret
          have hfin := HE5.out
          exact RetLb.of2 hfin rfl (by omega)
        have hq0 : (x == 0) = false := by simpa using e0
        by_cases e1 : x = 1
        · subst e1
          obtain ⟨p0, p1, p2, p3, q0, q1, q2, q3⟩ := HE3.out.cellsAt i hi
          obtain ⟨ht0, ht1⟩ := HE3.out.bd xs[i] (List.getElem_mem hi)
          have Hput := Lib.hid (fun z k' w' (hs : SrcAt w' B g k' bs) (hg : wq.grownBy w' (some g)) => (HE3.out.draw hs hg).putT i hi z)
          have HP := Lib.hid (pick_any B g _ bs 30 wq.drew (SrcAt.drew HE3.out.dr.src) (by omega))
          have hbg : b0 ≠ g := by have := (HE3.out.dr.row.lt b0 rfl).1; have := HE3.out.dr.lt; omega
          have hblt := (HE3.out.dr.row.lt b0 rfl).2
          generalize xs[i].till = T at *
          clear p0 p1 p2 q0 q1 q2
          have hiz : (0 : Int) ≤ (i : Int) := by omega
          go_wp2_with fail
          refine wp_region_noPanic ?_
          refine wp_region_L [10] (fun w' => w'.cell? ⟨b0, i * 4 + 3, none⟩ = some (.int .i64 T)) (by kernel_rfl) (p3) (fun hHeld => ?_)
          refine take_F (i := 0) (d := some 49) (v := ?_) (by kernel_rfl) (by kernel_rfl) rfl rfl (by kernel_rfl) (by kernel_rfl) (by kernel_rfl) (fun _ _ _ h => h) (Or.inl ⟨by rfl, ?_⟩) (by assumption) ?_
          rotate_left
          · (intro w hSw; (try dsimp only at hSw); go_simp; (try rw [if_neg (by omega)]); (try (with_reducible rfl)))
          simp only [Act.put, List.setIfInBounds_toArray, List.set_cons_zero, List.set_cons_succ]
          refine take_F (i := 1) (d := some 50) (v := ?_) (by kernel_rfl) (by kernel_rfl) rfl rfl (by kernel_rfl) (by kernel_rfl) (by kernel_rfl) (fun _ _ _ h => h) (Or.inl ⟨by rfl, ?_⟩) (by assumption) ?_
          rotate_left
          · (intro w hSw; (try dsimp only at hSw); go_simp; (try rw [if_neg (by omega)]); (try (with_reducible rfl)))
          simp only [Act.put, List.setIfInBounds_toArray, List.set_cons_zero, List.set_cons_succ]
          refine take_F (i := 2) (d := some 51) (v := ?_) (by kernel_rfl) (by kernel_rfl) rfl rfl (by kernel_rfl) (by kernel_rfl) (by kernel_rfl) (fun _ _ _ h => h) (Or.inl ⟨by rfl, ?_⟩) (by assumption) ?_
          rotate_left
          · (intro w hSw; (try dsimp only at hSw); go_simp; (try rw [if_neg (by omega)]); (try (with_reducible rfl)))
          simp only [Act.put, List.setIfInBounds_toArray, List.set_cons_zero, List.set_cons_succ]
          refine take_F (i := 3) (d := some 52) (v := ?_) (by kernel_rfl) (by kernel_rfl) rfl rfl (by kernel_rfl) (by kernel_rfl) (by kernel_rfl) (fun _ _ _ h => h) (Or.inl ⟨by rfl, ?_⟩) (by assumption) ?_
          rotate_left
          · (intro w hSw; (try dsimp only at hSw); go_simp; (try rw [if_neg (by omega)]); (try (with_reducible rfl)))
          simp only [Act.put, List.setIfInBounds_toArray, List.set_cons_zero, List.set_cons_succ]
          refine take_L [4] (i := 4) (d := some 53) (v := ?_) (by kernel_rfl) (by kernel_rfl) (by kernel_rfl) (by kernel_rfl) rfl rfl (by kernel_rfl) (by kernel_rfl) (by kernel_rfl) (fun _ _ _ h => h) (Or.inl ⟨by rfl, ?_⟩) (by assumption) ?_
          rotate_left
          · (intro w hSw; (try dsimp only at hSw); go_simp; (try rw [if_neg (by omega)]); (try (with_reducible rfl)))
          simp only [Act.put, List.setIfInBounds_toArray, List.set_cons_zero, List.set_cons_succ]
          refine take_F (i := 5) (d := some 54) (v := ?_) (by kernel_rfl) (by kernel_rfl) rfl rfl (by kernel_rfl) (by kernel_rfl) (by kernel_rfl) (fun _ _ _ h => h) (Or.inl ⟨by rfl, ?_⟩) (by assumption) ?_
          rotate_left
          · (intro w hSw; (try dsimp only at hSw); go_simp; (try rw [if_neg (by omega)]); (try (with_reducible rfl)))
          simp only [Act.put, List.setIfInBounds_toArray, List.set_cons_zero, List.set_cons_succ]
          refine call_L (i := 6) (d := (some 55)) rfl rfl (by kernel_rfl) (fun Kq hKq => ?_)
          go_simp
          go_at_call 66
          refine HP.out.mono ?_; rintro e ws ⟨y, rfl, ⟨hy0, hy1, _⟩, hs5, hg5⟩
          have hy30 := hy1 (by omega)
          have q5 := (World.cell?_of_block (a := ⟨b0, i * 4 + 3, none⟩) (hg5.block b0 (by simpa using hblt) (fun e => hbg (by injection e)))).trans p3
          have f5 := (World.frozen?_of_block (a := ⟨b0, i * 4 + 3, none⟩) (hg5.block b0 (by simpa using hblt) (fun e => hbg (by injection e)))).trans q3
          obtain ⟨zs, hzl, hd6⟩ := Hput.out (T + y) _ _ hs5 (grown_undrew hg5)
          have HE6 := Lib.hid hd6
          have hwr : IntKind.i64.wrap (T + y) = T + y := IntWalk.i64_in _ (by omega)
          clear hs5 hg5 hy1 hzl hd6 p3 q3
          (try go_wp2_with fail)
          refine hKq.out _ _ (q5) (fun hHeld => ?_)
          clear hKq Kq
          (try simp only [Act.put, List.setIfInBounds_toArray, List.set_cons_zero, List.set_cons_succ])
          refine take_F (i := 7) (d := some 56) (v := ?_) (by kernel_rfl) (by kernel_rfl) rfl rfl (by kernel_rfl) (by kernel_rfl) (by kernel_rfl) (fun _ _ _ h => h) (Or.inl ⟨by rfl, ?_⟩) (by assumption) ?_
          rotate_left
          · (intro w hSw; (try dsimp only at hSw); go_simp; (try rw [if_neg (by omega)]); (try (with_reducible rfl)))
          simp only [Act.put, List.setIfInBounds_toArray, List.set_cons_zero, List.set_cons_succ]
          refine take_F (i := 8) (d := some 57) (v := ?_) (by kernel_rfl) (by kernel_rfl) rfl rfl (by kernel_rfl) (by kernel_rfl) (by kernel_rfl) (fun _ _ _ h => h) (Or.inl ⟨by rfl, ?_⟩) (by assumption) ?_
          rotate_left
          · (intro w hSw; (try dsimp only at hSw); go_simp; (try rw [if_neg (by omega)]); (try (with_reducible rfl)))
          simp only [Act.put, List.setIfInBounds_toArray, List.set_cons_zero, List.set_cons_succ]
          refine take_F (i := 9) (d := some 58) (v := ?_) (by kernel_rfl) (by kernel_rfl) rfl rfl (by kernel_rfl) (by kernel_rfl) (by kernel_rfl) (fun _ _ _ h => h) (Or.inl ⟨by rfl, ?_⟩) (by assumption) ?_
          rotate_left
          · (intro w hSw; (try dsimp only at hSw); go_simp; (try rw [if_neg (by omega)]); (try (with_reducible rfl)))
          simp only [Act.put, List.setIfInBounds_toArray, List.set_cons_zero, List.set_cons_succ]
          refine late_L (i := 10) (d := none) (by kernel_rfl) rfl rfl (by kernel_rfl) (fun Kq hKq => ?_)
          go_simp
          refine hKq.out _ _ ?_
          clear hKq Kq
          refine done_L (by kernel_rfl) ?_ _
          refine NoPanic.normal ?_
          clear q5 f5 HE3 HP Hput hwr
          go_wp2_with fail
          go_ret
          have hfin := HE6.out
          exact RetLb.of2 hfin rfl (by omega)
        have hq1 : (x == 1) = false := by simpa using e1
        go_wp2_with fail
        go_ret
        have hfin := HE3.out
        exact RetLb.of hfin rfl (by omega)
end Go.Proofs.YtmheijnckmlbnaaDoor
/- Loans: draws that the laws share. -/
namespace Go.Proofs.YtmheijnckmlbnaaDoor
open Go.RowKit Go.Joins

/-- a list of loans of the call's own -/
structure NewLs (w w' : World) (v : Value) (xs : List Ln) : Prop where
  own : OwnL w' w.heap.size v xs
  len : xs.length ≤ 62
  sm : ∀ x ∈ xs, smX x
  nn : ∃ b c, v = .slice (some ⟨b, 0, none⟩) xs.length c
  bel : Below w.heap.size w w'
theorem below_srcL {W w1 w : World} {g : Nat} (h : Below W.heap.size W w1) (hg : w1.grownBy w (some g)) (hl : W.heap.size ≤ g) : Below W.heap.size W w :=
  h.grown hg h.size (fun x hx => by cases hx; exact hl)
theorem NewLs.of {w w1 w' : World} {B g k : Nat} {bs : List UInt8} {v : Value} {xs : List Ln} (h : DrM w1 w' B g k bs v xs) (hb : Below w.heap.size w w1) (hg : w.heap.size ≤ g) : NewLs w w' v xs :=
  ⟨ownsRow_le h.dr.row hb.size, h.len, h.sm, h.nn, below_srcL hb h.dr.gr hg⟩
theorem NewLs.drewN {w w' : World} {v : Value} {xs : List Ln} (h : NewLs w w' v xs) (n : Nat) : NewLs w (w'.drewN n) v xs := ⟨World.ownsRow.drewN h.own n, h.len, h.sm, h.nn, below_drewN h.bel n⟩
theorem NewLs.below {w w' w2 : World} {v : Value} {xs : List Ln} (h : NewLs w w' v xs) (hb : Below w'.heap.size w' w2) : NewLs w w2 v xs := ⟨own_below h.own hb, h.len, h.sm, h.nn, h.bel.trans (hb.mono h.bel.size)⟩
def TwoR (w : World) (e : Ending) (w' : World) : Prop := ∃ (v : Value) (xs : List Ln) (s : ByteArray) (d : Int), e = .returned (.tuple #[v, .string s, .int .i64 d]) ∧ NewLs w w' v xs
set_option maxRecDepth 100000 in
set_option maxHeartbeats 3200000 in
theorem l23Two_any (B : Nat) (cv : Value) (bs : List UInt8) (w : World) (h : Rd w B cv bs.length 1 (bs.map byV)) (hB : B ≤ w.heap.size) : Calls Tryd.prog 53 #[cv] w (TwoR w) := by
  have HF := Lib.hid (l00From_any B cv bs w h hB)
  obtain ⟨_, A, c, rfl, _⟩ := h
  go_enter Tryd.func53, Tryd.ntmps53
  go_wp2_with fail
  refine HF.out.mono ?_; rintro e w1 ⟨rfl, hs1, hb1, hl1⟩
  have Hs1 := Lib.hid hs1
  have Hb1 := Lib.hid hb1
  clear hs1 hb1 HF
  go_wp2_with fail
  refine (l23Bent_any B _ 0 bs _ Hs1.out (by omega)).mono ?_; rintro e w2 ⟨v2, xs, rfl, hd2⟩
  obtain ⟨b0, c0, rfl⟩ := hd2.nn
  have HD2 := Lib.hid hd2
  clear hd2 Hs1
  go_wp2_with fail
  refine (exhibit_any B _ _ bs _ HD2.out.dr.src (by omega)).mono ?_; rintro e w3 ⟨z, rfl, hz, hs3, hg3⟩
  have HD3 := Lib.hid (HD2.out.draw hs3 hg3)
  have hxl := HD2.out.len
  clear hs3 hg3 HD2
  by_cases hl0 : xs.length = 0
  · have h00 : ¬ (0 : Int) < (xs.length : Int) := by omega
    have Hl0 := Lib.hid hl0; clear hl0
    go_wp2_with fail
    refine (pick_any B _ _ bs 75 _ HD3.out.dr.src (by omega)).mono ?_; rintro e w4 ⟨y, rfl, ⟨hy0, hy1, _⟩, hs4, hg4⟩
    have hy75 := hy1 (by omega)
    have HD4 := Lib.hid (HD3.out.draw hs4 hg4)
    clear hs4 hg4 hy1 HD3
    go_wp2_with fail
    go_ret3
    exact ⟨_, xs, z, y - 3, rfl, NewLs.of HD4.out Hb1.out (Nat.le_refl _)⟩
  · have h00 : (0 : Int) < (xs.length : Int) := by omega
    go_wp2_with fail
    refine (one_any B _ _ bs 2 _ HD3.out.dr.src (by omega)).mono ?_; rintro e w4 ⟨y, rfl, hs4, hg4⟩
    have HD4 := Lib.hid (HD3.out.draw hs4 hg4)
    clear hs4 hg4 HD3
    cases y with
    | false =>
      go_wp2_with fail
      refine (pick_any B _ _ bs 75 _ HD4.out.dr.src (by omega)).mono ?_; rintro e w5 ⟨y, rfl, ⟨hy0, hy1, _⟩, hs5, hg5⟩
      have hy75 := hy1 (by omega)
      have HD5 := Lib.hid (HD4.out.draw hs5 hg5)
      clear hs5 hg5 hy1 HD4
      go_wp2_with fail
      go_ret3
      exact ⟨_, xs, z, y - 3, rfl, NewLs.of HD5.out Hb1.out (Nat.le_refl _)⟩
    | true =>
      go_wp2_with fail
      refine (pick_any B _ _ bs _ _ HD4.out.dr.src (by omega)).mono ?_; rintro e w5 ⟨x, rfl, ⟨hx0, hx1, hx2⟩, hs5, hg5⟩
      obtain ⟨i, rfl⟩ : ∃ i : Nat, x = i := ⟨x.toNat, by omega⟩
      have hi : i < xs.length := by
        by_cases h1 : xs.length = 1
        · have := hx2 (by omega); omega
        · have := hx1 (by omega); omega
      have hi' : (i : Int) < (xs.length : Int) := by omega
      have HD5 := Lib.hid (HD4.out.draw hs5 hg5)
      obtain ⟨p0, p1, p2, p3, _, _, _, _⟩ := HD5.out.cellsAt i hi
      clear hs5 hg5 hx1 hx2 HD4
      generalize xs[i] = x at *
      obtain ⟨a, b, f, t⟩ := x
      dsimp only at p0 p1 p2 p3
      obtain ⟨f0, f1, f2, f3⟩ := four_at (heap_alloc_new w5 (.cells #[.string a, .string b, .int .i64 f, .int .i64 t] 26))
      have hba := Lib.hid ((Below.refl w5.heap.size w5).alloc (Nat.le_refl _) (.cells #[.string a, .string b, .int .i64 f, .int .i64 t] 26))
      go_wp2_with fail
      go_quiet (fail)
      go_wp2_with fail
      go_ret3
      exact ⟨_, xs, a, f, rfl, NewLs.drewN (NewLs.of (HD5.out.below hba.out) Hb1.out (Nat.le_refl _)) _⟩
set_option maxRecDepth 100000 in
set_option maxHeartbeats 800000 in
theorem drawCL_any (B : Nat) (cv : Value) (bs : List UInt8) (w : World) (h : Rd w B cv bs.length 1 (bs.map byV)) (hB : B ≤ w.heap.size) : Calls Tryd.prog 10 #[cv] w (TwoR w) := by
  have HF := Lib.hid (l23Two_any B cv bs w h hB)
  obtain ⟨_, A, c, rfl, _⟩ := h
  go_enter Tryd.func10, Tryd.ntmps10
  go_wp2_with fail
  refine HF.out.mono ?_; rintro e w1 ⟨v, xs, s, d, rfl, hn⟩
  obtain ⟨b0, c0, rfl⟩ := hn.nn
  have HN := Lib.hid hn; clear hn
  go_wp2_with fail
  go_ret3
  exact ⟨_, xs, s, d, rfl, HN.out⟩
def OneR (w : World) (e : Ending) (w' : World) : Prop := ∃ (v : Value) (xs : List Ln), e = .returned v ∧ NewLs w w' v xs
end Go.Proofs.YtmheijnckmlbnaaDoor
/- Decimal on both sides (strconv.FormatInt by the shelf's contract; l01Dec by its walk). -/
namespace Go.Proofs.YtmheijnckmlbnaaDoor
open Go.RowKit Go.Joins

theorem infoB' : (Tryd.prog.info? 5).map (fun i => (i.zero, i.size, i.bytes)) = some (some (.int .u8 0), 1, 1) := by kernel_rfl

/-- the table of powers lies as its initialiser lays it -/
def Tab (w : World) : Prop := Lib.TabIs Tryd.prog w "internal/strconv.uint64pow10" .u64 Lib.pow10Tab
theorem gPow : Tryd.prog.globalNamed "internal/strconv.uint64pow10" = some 0 := by kernel_rfl
theorem Tab.keep {w w' : World} {B : Nat} (h : Tab w) (hb : Below B w w') (hB : w.heap.size ≤ B) : Tab w' := by
  unfold Tab Lib.TabIs World.var? at *
  rw [gPow] at *
  simp only [Option.bind_some] at *
  have hg : 0 < w.heap.size := by
    cases hh : w.heap[0]? with
    | none => rw [hh] at h; cases h
    | some o => exact (Array.getElem?_eq_some_iff.1 hh).1
  rw [hb.block _ (by omega)]
  exact h
theorem Tab.below {w w' : World} (h : Tab w) (hb : Below w.heap.size w w') : Tab w' := h.keep hb (Nat.le_refl _)

/-- decimals -/
def decS (n : Int) : ByteArray := ⟨(Lib.itoa n).toArray⟩

theorem below_app {w w' : World} (os : Array Obj) (h1 : w'.os = w.os) (h2 : w'.tape = w.tape) (h3 : w'.output = w.output) (h4 : w'.heap = w.heap ++ os) : Below w.heap.size w w' :=
  ⟨h1, h2, h3, by rw [h4]; simp, fun i hi => by rw [h4]; exact Array.getElem?_append_left hi⟩

set_option maxHeartbeats 400000 in
theorem Decimal_any (n : Int) (w : World) (h0 : -9223372036854775808 ≤ n) (h1 : n ≤ 9223372036854775807) (ht : Tab w) :
    Calls Tryd.prog 56 #[.int .i64 n] w fun e w' => e = .returned (.string (decS n)) ∧ Below w.heap.size w w' := by
  have HF := Lib.hid (Tryd.strconv_FormatInt_10 n h0 h1 w ht)
  clear h0 h1 ht
  go_enter Tryd.func56, Tryd.ntmps56
  go_wp2_with fail
  refine HF.out.mono ?_; rintro e w1 ⟨rfl, k, os, rfl⟩
  go_wp2_with fail
  go_ret
  exact ⟨rfl, below_app os rfl rfl rfl rfl⟩

/-- the digits in front of what is there -/
def ddL (u : Nat) (acc : List UInt8) : List UInt8 := if u = 0 then acc else Lib.decDigits u ++ acc
theorem ddL_step (u : Nat) (acc : List UInt8) (h : 0 < u) : ddL u acc = ddL (u / 10) (UInt8.ofNat (48 + u % 10) :: acc) := by
  unfold ddL
  rw [if_neg (by omega), Lib.decDigits]
  by_cases h10 : u < 10
  · rw [dif_pos h10, if_pos (by omega), show u % 10 = u by omega]
    rfl
  · rw [dif_neg h10, if_neg (by omega)]
    simp
theorem len19 (k L : Nat) (hk : 0 < k) (h : k * 10 ^ L ≤ 9223372036854775808) : L ≤ 18 := by
  by_cases hL : L ≤ 18
  · exact hL
  · exfalso
    have h1 : 10 ^ 19 ≤ 10 ^ L := Nat.pow_le_pow_right (by omega) (by omega)
    have h2 : 10 ^ L ≤ k * 10 ^ L := Nat.le_mul_of_pos_left _ hk
    have h3 : (10 : Nat) ^ 19 = 10000000000000000000 := by decide
    omega
theorem pow_step (k L N : Nat) (h : k * 10 ^ L ≤ N) : k / 10 * 10 ^ (L + 1) ≤ N := by
  have h1 : k / 10 * 10 ≤ k := by omega
  calc k / 10 * 10 ^ (L + 1) = k / 10 * 10 * 10 ^ L := by rw [Nat.pow_succ, Nat.mul_assoc, Nat.mul_comm 10]
    _ ≤ k * 10 ^ L := Nat.mul_le_mul_right _ h1
    _ ≤ N := h
theorem decDigits_ne (u : Nat) : (Lib.decDigits u).length ≠ 0 := by
  rw [Lib.decDigits]
  split <;> simp

theorem digB' (m : Nat) : IntKind.u8.wrap (48 + (m : Int) % 10) = ((UInt8.ofNat (48 + m % 10)).toNat : Int) := by
  rw [IntKind.wrap_u8]
  simp only [UInt8.toNat_ofNat']
  omega

/-- an owned row appended to a row that has just been made -/
theorem wpList_app_own {P : Program} {w : World} {ops : Array Oper} {rest : List Oper} {o : Oper} {a : Act} {Q : Exit → Act → World → Prop} (t e : TypeId) (z : Value) (size bytes : Nat)
    (ht : P.underlying t = some (.slice e)) (hinfo : (P.info? e).map (fun i => (i.zero, i.size, i.bytes)) = some (some z, size, bytes)) (hzs : z.cells.size = size) (hsz : 0 < size)
    (s x : Operand) (hgd : o.guard = none) (ho : o.op = .call { callee := .builtin .append, args := #[s, x], argTypes := #[t, t] })
    (base : Nat) (v : Value) (n : Nat) (xs : List Value) (hs : a.eval s = v) (hown : w.ownsRow base e size v n xs) (hv : v ≠ .slice none 0 0)
    (g m c : Nat) (news : List Value) (hx : a.eval x = .slice (some ⟨g, 0, none⟩) m c) (hr : ∀ j u, news[j]? = some u → w.cell? ⟨g, j, none⟩ = some u) (hl : news.length = m * size) (h1 : ∀ u ∈ news, u.oneCell' = true)
    (h63 : n + m ≤ maxLen) (hbytes : (n + m) * bytes ≤ 140737488355328) (hbase : base ≤ w.heap.size)
    (h : ∀ g' c' w', w'.ownsRow base e size (.slice (some ⟨g', 0, none⟩) (n + m) c') (n + m) (xs ++ news) → w.grownBy w' v.ownBlock → wpList P ops Q rest (a.put o.dst (.slice (some ⟨g', 0, none⟩) (n + m) c')) w') :
    wpList P ops Q (o :: rest) a w := by
  obtain ⟨i, hi, hz, h2, h3⟩ := info_parts hinfo
  refine wpList_append_own _ hgd s x t ho base e i z size bytes ht hi hz h2 h3 hzs hsz v n xs hs hown ⟨g, 0, none⟩ m c news hx hl (fun j u hu => ?_) h1 h63 hbytes hbase ?_
  · rw [show (⟨g, 0, none⟩ : Addr).add j = ⟨g, j, none⟩ by unfold Addr.add; split <;> simp_all]
    exact hr j u hu
  · intro v' w' ho' hg' hnil
    rcases ownsRow_forms ho' with ⟨rfl, _⟩ | ⟨g', c', rfl⟩
    · exact absurd (hnil.1 rfl).1 hv
    · exact h g' c' w' ho' hg'

set_option maxHeartbeats 1000000 in
theorem l01Dec_nonneg (n : Nat) (w : World) (hn : n ≤ 9223372036854775807) :
    Calls Tryd.prog 79 #[.int .i64 n] w fun e w' => e = .returned (.string (decS n)) ∧ Below w.heap.size w w' := by
  have Hn := Lib.hid hn; clear hn
  go_enter Tryd.func79, Tryd.ntmps79
  go_wp2_with fail
  go_loopw [3, 4] (fun v i wr => ∃ (k : Nat) (acc : List UInt8) (g c : Nat), i = .int .i64 k ∧ v = .slice (some ⟨g, 0, none⟩) acc.length c ∧ wr.ownsRow w.heap.size 5 1 v acc.length (acc.map byV) ∧
      ddL n [] = ddL k acc ∧ Hid (k * 10 ^ acc.length ≤ 9223372036854775808) ∧ Hid (k ≤ n) ∧ Below w.heap.size w wr) (fun _ i _ => (intOf i).toNat)
  case atStart => exact ⟨n, [], w.heap.size, 0, rfl, rfl, World.ownsRow_made w #[] 0 (Nat.le_refl _) (by simp [maxLen]) rfl, rfl, Lib.hid (by have := Hn.out; simp; omega), Lib.hid (Nat.le_refl _), (Below.refl _ _).alloc (Nat.le_refl _) _⟩
  case round =>
    obtain ⟨k, acc, g, c, rfl, rfl, hown, hdd, hp, hkn, hbl⟩ := hrel
    have Hdd := Lib.hid hdd; clear hdd
    by_cases hlt : 0 < k
    · have hne : ((k : Int) != 0) = true := by rw [bne_iff_ne]; omega
      have hL : acc.length ≤ 18 := len19 k acc.length hlt hp.out
      have hd := digB' k
      have Hst := Lib.hid (ddL_step k acc hlt)
      have hk8 : k ≤ 9223372036854775807 := by have := hkn.out; have := Hn.out; omega
      generalize UInt8.ofNat (48 + k % 10) = d at *
      have hnew := World.ownsRow_lit (base := w.heap.size) (e := 5) (size := 1) wr #[.int .u8 (d.toNat : Int)] 1 hbl.size (by simp [maxLen]) rfl
      have hcells := (hown.alloc (.cells #[.int .u8 (d.toNat : Int)] 5)).cells (g := g) rfl
      have hcells' : ∀ j u, (acc.map byV)[j]? = some u → (wr.alloc (.cells #[.int .u8 (d.toNat : Int)] 5)).cell? ⟨g, j, none⟩ = some u := fun j u hu => by
        have := hcells j u hu
        rwa [show (⟨g, 0, none⟩ : Addr).add j = ⟨g, j, none⟩ by unfold Addr.add; split <;> simp_all] at this
      have Hc := Lib.hid hcells'; clear hcells hcells'
      go_wp2_with (at_builtin; refine wpList_app_own 22 5 _ 1 1 Tryd.underlying22 infoB' rfl (by omega) _ _ rfl rfl w.heap.size (.slice (some ⟨wr.heap.size, 0, none⟩) 1 1) 1 _ rfl hnew (by simp) g acc.length c (acc.map byV) rfl Hc.out (by simp) (by simp [byV, Value.oneCell']) (by simp [maxLen]; omega) (by omega) (by simp; have := hbl.size; omega) ?_; intro g' c' w1 hown1 hg1)
      have hb1 : Below w.heap.size w w1 := (hbl.alloc hbl.size _).grown hg1 (by simp; have := hbl.size; omega) (fun x hx => by injection hx with hx; rw [← hx]; exact hbl.size)
      clear Hc hnew
      go_wp2_with fail
      go_roundw
      case rel => exact ⟨k / 10, d :: acc, g', c', by go_num, by simp [Nat.add_comm], by simpa [byV, Nat.add_comm] using hown1, by rw [Hdd.out, Hst.out], Lib.hid (pow_step _ _ _ hp.out), Lib.hid (by have := hkn.out; omega), hb1⟩
      case measure => simp [intOf]; omega
    · have hk0 : k = 0 := by omega
      have hz : ((k : Int) != 0) = false := by rw [hk0]; rfl
      by_cases hn0 : n = 0
      · have hacc : acc = [] := by
          have := Hdd.out
          rw [hk0, hn0] at this
          simpa [ddL] using this.symm
        have hl : ((acc.length : Int) == 0) = true := by rw [hacc]; rfl
        have he := Lib.hid (show decS (n : Int) = ⟨#[48]⟩ by unfold decS; rw [Lib.itoa_nonneg, hn0, Lib.decDigits_one (by omega)]; rfl)
        clear hn0 hacc
        go_wp2_with fail
        go_ret
        rw [he.out]; exact ⟨rfl, hbl⟩
      · have hacc : Lib.decDigits n = acc := by
          have := Hdd.out
          rw [hk0] at this
          simpa [ddL, hn0] using this
        have hl : ((acc.length : Int) == 0) = false := by
          have := decDigits_ne n
          rw [hacc] at this
          rw [beq_eq_false_iff_ne]; omega
        have hpos : ¬ (n : Int) < 0 := by omega
        have he := Lib.hid (show decS (n : Int) = ⟨acc.toArray⟩ by unfold decS; rw [Lib.itoa_nonneg, hacc])
        have hconv := run_conv_own (P := Tryd.prog) 22 9 5 Tryd.underlying22 Tryd.underlying5 Tryd.underlying9 _ _ _ _ hown
        clear hn0 hacc
        go_wp2_with fail
        go_ret
        rw [he.out]; exact ⟨rfl, hbl⟩
end Go.Proofs.YtmheijnckmlbnaaDoor
/- NoteSum: the walks of both sides. -/
namespace Go.Proofs.YtmheijnckmlbnaaDoor
open Go.RowKit

theorem take_snoc (s : ByteArray) (k : Nat) (h : k < s.size) : s.data.toList.take (k + 1) = s.data.toList.take k ++ [s[k]] := by
  rw [List.take_succ_eq_append_getElem (by simpa using h)]; rfl

/-- the checksum's fold -/
def sumF (s0 : Int) (l : List UInt8) : Int := l.foldl (fun s c => (31 * s + (c.toNat : Int)) % 65521) s0
theorem sumF_snoc (s0 : Int) (l : List UInt8) (c : UInt8) : sumF s0 (l ++ [c]) = (31 * sumF s0 l + (c.toNat : Int)) % 65521 := by simp [sumF]
theorem sumF_bd (s0 : Int) (h0 : 0 ≤ s0) (h1 : s0 < 65521) (l : List UInt8) : 0 ≤ sumF s0 l ∧ sumF s0 l < 65521 := by
  unfold sumF
  induction l generalizing s0 with
  | nil => exact ⟨h0, h1⟩
  | cons c l ih => exact ih _ (by simp only []; omega) (by simp only []; omega)

def noteSum (before number : Int) (l : List UInt8) : Int :=
  if inB before 0 65520 && inB number 0 1000000 then sumF ((before + 7 * number) % 65521) l else 0

end Go.Proofs.YtmheijnckmlbnaaDoor
/- Journals, part 1: what a note and a line is; isNote, l26Note, l26Head, l26Line, next. -/
namespace Go.Proofs.YtmheijnckmlbnaaDoor
open Go.RowKit Go.Joins

/-- every byte can be printed -/
def okByte (c : UInt8) : Bool := decide (32 ≤ (c.toNat : Int)) && decide ((c.toNat : Int) ≤ 126)
def noteOk (l : List UInt8) : Bool := l.all okByte && decide (l.length ≤ 60)

theorem ba_mem (s : ByteArray) (k : Nat) (h : k < s.size) : s[k] ∈ s.data.toList := List.getElem_mem (l := s.data.toList) (n := k) (by simpa using h)
theorem noteOk_no (s : ByteArray) (c : UInt8) (hc : c ∈ s.data.toList) (h : okByte c = false) : noteOk s.data.toList = false := by
  unfold noteOk
  rw [Bool.and_eq_false_iff]; left
  rw [List.all_eq_false]
  exact ⟨c, hc, by simp [h]⟩
theorem noteOk_end (s : ByteArray) (k : Nat) (hk : s.size ≤ k) (h : (s.data.toList.take k).all okByte = true) : noteOk s.data.toList = decide ((s.size : Int) ≤ 60) := by
  unfold noteOk
  rw [List.take_of_length_le (by simpa using hk)] at h
  rw [h, Bool.true_and, show s.data.toList.length = s.size from rfl, Bool.eq_iff_iff]
  simp; omega
theorem all_snoc (s : ByteArray) (k : Nat) (hlt : k < s.size) (h : (s.data.toList.take k).all okByte = true) (hc : okByte s[k] = true) : (s.data.toList.take (k + 1)).all okByte = true := by
  rw [take_snoc s k hlt, List.all_append, h]; simpa using hc

end Go.Proofs.YtmheijnckmlbnaaDoor
/- Journals, part 2: lines. -/
namespace Go.Proofs.YtmheijnckmlbnaaDoor
open Go.RowKit Go.Joins

theorem nDig_le (u : Nat) (h : u ≤ 9223372036854775808) : Lib.nDigits u ≤ 19 := by
  have key : ∀ (k u : Nat), u < 10 ^ (k + 1) → Lib.nDigits u ≤ k + 1 := by
    intro k
    induction k with
    | zero => intro u hu; rw [Lib.nDigits_small (by simpa using hu)]; omega
    | succ k ih =>
      intro u hu
      by_cases h10 : u < 10
      · rw [Lib.nDigits_small h10]; omega
      · rw [Lib.nDigits_big h10]
        have := ih (u / 10) (by rw [Nat.pow_succ] at hu; omega)
        omega
  refine key 18 u ?_
  have : (10 : Nat) ^ (18 + 1) = 10000000000000000000 := by decide
  omega
theorem decS_size (n : Int) (h0 : -9223372036854775808 ≤ n) (h1 : n ≤ 9223372036854775807) : (decS n).size ≤ 20 := by
  show (Lib.itoa n).toArray.size ≤ 20
  unfold Lib.itoa
  split
  · have := nDig_le n.natAbs (by omega)
    simp only [List.size_toArray, List.length_cons, Lib.decDigits_length]; omega
  · have := nDig_le n.toNat (by omega)
    simp only [List.size_toArray, Lib.decDigits_length]; omega

/-- the beginning of a line, and a line -/
def headS (number sum : Int) : ByteArray := decS number ++ ⟨#[32]⟩ ++ decS sum ++ ⟨#[32]⟩
def lineS (number sum : Int) (note : ByteArray) : ByteArray := headS number sum ++ note ++ ⟨#[10]⟩
theorem headS_size (number sum : Int) (h0 : 0 ≤ number) (h1 : number ≤ 1000001) (h2 : 0 ≤ sum) (h3 : sum ≤ 1000001) : (headS number sum).size ≤ 42 := by
  have := decS_size number (by omega) (by omega)
  have := decS_size sum (by omega) (by omega)
  unfold headS
  simp only [ByteArray.size_append]
  show _ + 1 + _ + 1 ≤ _
  omega
theorem lineS_size (number sum : Int) (note : ByteArray) (h0 : 0 ≤ number) (h1 : number ≤ 1000001) (h2 : 0 ≤ sum) (h3 : sum ≤ 1000001) : (lineS number sum note).size ≤ note.size + 43 := by
  have := headS_size number sum h0 h1 h2 h3
  unfold lineS
  simp only [ByteArray.size_append]
  show _ + _ + 1 ≤ _
  omega

theorem noteSum_bd (before number : Int) (l : List UInt8) : 0 ≤ noteSum before number l ∧ noteSum before number l < 65521 := by
  unfold noteSum
  split
  · exact sumF_bd _ (by omega) (by omega) l
  · omega

end Go.Proofs.YtmheijnckmlbnaaDoor
