/- Loans, part 14 (printed by genlo14.py): a loan is added, the reference's side. -/
import Derived.Test.YtfaoilonkonmkaaLo13
namespace Go.Proofs.Ytfaoilonkonmkaa
open Go.RowKit Go.Joins

theorem dnS_at (p : Nat → Bool) (m : Nat) : dnS p (m + 1) = if p m = true then dnS p m else m + 1 := rfl
theorem dn_cases (p : Nat → Bool) (k : Nat) : (∃ m, m + 1 = k ∧ p m = true ∧ dnS p k = dnS p m) ∨ (k = 0 ∧ dnS p k = k) ∨ ∃ m, m + 1 = k ∧ p m = false ∧ dnS p k = k := by
  cases k with
  | zero => exact .inr (.inl ⟨rfl, rfl⟩)
  | succ m =>
    cases h : p m with
    | true => exact .inl ⟨m, rfl, h, by rw [dnS_at, h]; rfl⟩
    | false => exact .inr (.inr ⟨m, rfl, h, by rw [dnS_at, h]; rfl⟩)

set_option maxRecDepth 100000 in
set_option maxHeartbeats 6400000 in
theorem AddS_any (B b o c : Nat) (xs : List Ln) (x : Ln) (w : World) (h : RdL w B (.slice (some ⟨b, o, none⟩) xs.length c) xs) (hB : B ≤ w.heap.size) (hl : xs.length ≤ 1048576) (hsm : ∀ x ∈ xs, smL x) (hx : smL x) (hc : xs.length ≤ c) (hc2 : c ≤ maxLen) :
    Calls Try.prog 40 #[.slice (some ⟨b, o, none⟩) xs.length c, aggL x] w (RetLn (addC xs x) (addR xs x) w) := by
  have HV := Lib.hid (fun wx hx => l23Ok_any B (.slice (some ⟨b, o, none⟩) xs.length c) xs wx hx hl hsm)
  have HO := Lib.hid (fun wx B2 b2 o2 h2 => l23One_any B2 b2 o2 x wx h2 hx)
  have A1 := Lib.hid (add_1 (xs := xs) (x := x))
  have A2 := Lib.hid (add_2 (xs := xs) (x := x))
  have A9 := Lib.hid (add_9 (xs := xs) (x := x))
  have A5 := Lib.hid (add_5 (xs := xs) (x := x))
  have A0 := Lib.hid (add_0 (xs := xs) (x := x))
  have hal := addAt_le xs x
  have Hdn := Lib.hid (show addAt xs x = dnS (fun k => before x (atL xs k)) xs.length from rfl)
  have Hln := Lib.hid (loansOk_len (xs := xs))
  generalize addC xs x = C at *
  generalize addR xs x = R at *
  generalize addAt xs x = at' at *
  have H := Lib.hid h
  clear h hsm hx
  simp only [maxLen] at hc2
  obtain ⟨xa, xb, xf, xt⟩ := x
  have hb0 := Lib.hid ((Below.refl w.heap.size w).alloc (Nat.le_refl _) (.cells #[.string xa, .string xb, .int .i64 xf, .int .i64 xt] 63))
  have Hnw := Lib.hid (heap_alloc_new w (.cells #[.string xa, .string xb, .int .i64 xf, .int .i64 xt] 63))
  have hlw : w.heap.size < (w.alloc (.cells #[.string xa, .string xb, .int .i64 xf, .int .i64 xt] 63)).heap.size := by simp
  have HL := Lib.hid (H.out.below (hb0.out.mono hB))
  have hzB : B ≤ (w.alloc (.cells #[.string xa, .string xb, .int .i64 xf, .int .i64 xt] 63)).heap.size := Nat.le_trans hB (Nat.le_of_lt hlw)
  go_enter Try.func40, Try.ntmps40
  go_wp2_with fail
  generalize w.alloc (.cells #[.string xa, .string xb, .int .i64 xf, .int .i64 xt] 63) = wn at *
  have HX := Lib.hid (fun wx (hb : Below wn.heap.size wn wx) => (show LnAt wx wn.heap.size w.heap.size 0 ⟨xa, xb, xf, xt⟩ from by
    obtain ⟨d0, d1, d2, d3⟩ := four_at ((hb.block _ hlw).trans Hnw.out)
    exact ⟨hlw, d0, d1, d2, d3⟩))
  have hb00 := Lib.hid (Below.refl wn.heap.size wn)
  refine (HV.out _ HL.out).mono ?_; rintro e w1 ⟨rfl, n1, rfl⟩
  have hb1 := Lib.hid (below_drewN hb00.out n1)
  generalize wn.drewN n1 = w1 at *
  cases g1 : loansOk xs with
  | false =>
    have Hf := Lib.hid (A1.out g1)
    clear A1 A2 A9 A5 A0
    go_wp2_with fail
    go_ret2
    exact RetLn_no Hf.out (hb0.out.trans (hb1.out.mono hb0.out.size))
  | true =>
    cases g2 : loanOk ⟨xa, xb, xf, xt⟩ with
    | false =>
      have Hf := Lib.hid (A2.out g1 g2)
      rw [g2] at HO
      clear g1 g2 A1 A2 A9 A5 A0
      go_wp2_with fail
      refine (HO.out _ _ _ _ (HX.out _ hb1.out)).mono ?_; rintro e w2 ⟨rfl, n2, rfl⟩
      go_wp2_with fail
      go_ret2
      exact RetLn_no Hf.out (hb0.out.trans ((below_drewN hb1.out n2).mono hb0.out.size))
    | true =>
      have B9 := Lib.hid (A9.out g1 g2)
      have B5 := Lib.hid (A5.out g1 g2)
      have B0 := Lib.hid (A0.out g1 g2)
      have hlen := Hln.out g1
      rw [g2] at HO
      clear g1 g2 A1 A2 A9 A5 A0 Hln
      go_wp2_with fail
      refine (HO.out _ _ _ _ (HX.out _ hb1.out)).mono ?_; rintro e w2 ⟨rfl, n2, rfl⟩
      have hb2 := Lib.hid (below_drewN hb1.out n2)
      generalize w1.drewN n2 = w2 at *
      clear HO
      go_wp2_with fail
      go_loopw [6] (fun i wr => ∃ k : Nat, k ≤ xs.length ∧ chk k (hitI xs ⟨xa, xb, xf, xt⟩) = true ∧ i = .int .i64 k ∧ Below wn.heap.size wn wr) (fun i _ => xs.length - (intOf i).toNat)
      case atStart => exact ⟨0, Nat.zero_le _, rfl, rfl, hb2.out⟩
      case round =>
        obtain ⟨k, hk, hall, rfl, hbl⟩ := hrel
        have Hall := Lib.hid hall; clear hall
        by_cases hlt : k < xs.length
        · obtain ⟨b1, o1, hA, hE⟩ := (HL.out.below (hbl.mono hzB)).at k hlt
          obtain ⟨rfl, rfl⟩ : b = b1 ∧ o = o1 := by simpa using hA
          clear hA
          have hlt' : (k : Int) < (xs.length : Int) := by omega
          have K9 := Lib.hid (B9.out k hlt)
          have Kh := Lib.hid (hit_step hlt Hall.out)
          have HC := Lib.hid (l23Clash_any B wn.heap.size b (o + k * 4) w.heap.size 0 xs[k] ⟨xa, xb, xf, xt⟩ wr hE (HX.out _ hbl))
          rw [clash_comm] at HC
          have Hbl := Lib.hid hbl
          clear hE hbl
          generalize xs[k] = y at *
          cases gc : clash ⟨xa, xb, xf, xt⟩ y with
          | true =>
            have Hf := Lib.hid (K9.out gc)
            rw [gc] at HC
            clear gc
            go_wp2_with fail
            refine HC.out.mono ?_; rintro e w5 ⟨rfl, n5, rfl⟩
            go_wp2_with fail
            go_ret2
            exact RetLn_no Hf.out (hb0.out.trans ((below_drewN Hbl.out n5).mono hb0.out.size))
          | false =>
            have Kh2 := Lib.hid (Kh.out gc)
            rw [gc] at HC
            clear gc
            go_wp2_with fail
            refine HC.out.mono ?_; rintro e w5 ⟨rfl, n5, rfl⟩
            go_wp2_with fail
            go_roundw
            case rel => exact ⟨k + 1, by omega, Kh2.out, by go_num, below_drewN Hbl.out n5⟩
            case measure => simp [intOf]; omega
        · obtain rfl : k = xs.length := by omega
          by_cases h60 : 60 ≤ xs.length
          · have Hf := Lib.hid (B5.out Hall.out h60)
            have hq : (60 : Int) ≤ (xs.length : Int) := by omega
            go_wp2_with fail
            go_ret2
            exact RetLn_no Hf.out (hb0.out.trans (hbl.mono hb0.out.size))
          · have Hf := Lib.hid (B0.out Hall.out (by omega))
            have hq : (xs.length : Int) < 60 := by omega
            have Hbl := Lib.hid hbl
            clear Hall B9 B5 B0 hbl
            go_wp2_with fail
            go_loopw [7] (fun i wr => ∃ k : Nat, k ≤ xs.length ∧ at' = dnS (fun k => before ⟨xa, xb, xf, xt⟩ (atL xs k)) k ∧ i = .int .i64 k ∧ Below wn.heap.size wn wr) (fun i _ => (intOf i).toNat)
            case atStart => exact ⟨xs.length, Nat.le_refl _, Hdn.out, rfl, Hbl.out⟩
            case round =>
              obtain ⟨k, hk, hdn, rfl, hbl⟩ := hrel
              have Hd2 := Lib.hid hdn; clear hdn
              rcases dn_cases (fun k => before ⟨xa, xb, xf, xt⟩ (atL xs k)) k with ⟨m, hm, gb, hd⟩ | ⟨h0, hd⟩ | ⟨m, hm, gb, hd⟩
              · have Hd := Lib.hid (Hd2.out.trans hd); clear hd
                obtain ⟨b1, o1, hA, hE⟩ := (HL.out.below (hbl.mono hzB)).atD m (by omega)
                obtain ⟨rfl, rfl⟩ : b = b1 ∧ o = o1 := by simpa using hA
                clear hA
                have HB := Lib.hid (l23Before_any wn.heap.size B w.heap.size 0 b (o + m * 4) ⟨xa, xb, xf, xt⟩ (atL xs m) wr (HX.out _ hbl) hE)
                (try dsimp only at gb)
                rw [gb] at HB
                have hk0 : decide (0 < k) = true := decide_eq_true (by omega)
                have hm1 : IntKind.i64.wrap ((k : Int) - 1) = (m : Int) := by rw [IntWalk.i64_in _ (by omega)]; omega
                have hm3 : (k : Int) - 1 = (m : Int) := by omega
                have hm2 : (m : Int) < (xs.length : Int) := by omega
                have Hm := Lib.hid hm
                have Hbl2 := Lib.hid hbl
                clear gb hm hE hbl
                go_wp2_with fail
                refine HB.out.mono ?_; rintro e w5 ⟨rfl, n5, rfl⟩
                go_wp2_with fail
                clear hm1 hm3
                go_roundw
                case rel => exact ⟨m, by omega, Hd.out, by first | rfl | (congr 1; have := Hm.out; omega), below_drewN Hbl2.out n5⟩
                case measure => have := Hm.out; simp [intOf]; omega
              · have hk0 : decide (0 < k) = false := decide_eq_false (by omega)
                have hda := Hd2.out.trans hd
                clear hd h0 Hd2
                obtain rfl : at' = k := hda
                have Hbl2 := Lib.hid hbl
                clear hbl
                have hzr : wn.heap.size ≤ wr.heap.size := Hbl2.out.size
                have hkc : at' ≤ c := by omega
                have ho0 := Lib.hid (World.ownsRow_made (base := wn.heap.size) (e := 63) (size := 4) wr #[] 0 (by first | exact hzr | (simp; exact hzr)) (by simp [maxLen]) rfl)
                have hba := Lib.hid ((Hbl2.out).alloc (by first | exact hzr | (simp; exact hzr)) (.cells #[] 63))
                have HLb := Lib.hid (HL.out.below (hba.out.mono hzB))
                have Hl1 := Lib.hid (show ((xs.take at').flatMap cellsL).length = at' * 4 by rw [flat_len cellsL 4 (fun _ => rfl), List.length_take]; omega)
                have Hl2 := Lib.hid (show ((xs.drop at').flatMap cellsL).length = (xs.length - at') * 4 by rw [flat_len cellsL 4 (fun _ => rfl), List.length_drop])
                have Hlt := Lib.hid (show (xs.take at').length = at' by rw [List.length_take]; omega)
                by_cases hcap : c = at'
                · obtain rfl : c = at' := hcap
                  go_wp2_with (first | (at_builtin; refine wpList_apr 59 63 _ 4 48 Try.underlying59 infoL rfl (by omega) _ _ rfl rfl wn.heap.size _ 0 _ rfl ho0.out b o c _ ((xs.take c).flatMap cellsL) rfl Hl1.out (HLb.out.head c) (cellsL_one _) (by simp [maxLen]; omega) (by omega) hba.out.size ?_; intro v7 w7 hown7 hg7; obtain ⟨_, A7, c7, rfl, _⟩ := Rd.of_own hown7; have Hb7 := Lib.hid (below_apd hba.out ho0.out hg7 (Nat.le_refl _) hba.out.size); simp only [Nat.zero_add, List.nil_append] at hown7; have Hown7 := Lib.hid hown7; clear hown7 hg7; obtain ⟨d0, d1, d2, d3⟩ := four_at ((Hb7.out.block _ hlw).trans Hnw.out)) | (at_builtin; refine wpList_apd 59 63 _ 4 48 Try.underlying59 infoL rfl (by omega) _ _ rfl rfl wn.heap.size _ c _ rfl Hown7.out #[.string xa, .string xb, .int .i64 xf, .int .i64 xt] 1 1 rfl rfl (by simp [Value.oneCell']) (by simp [maxLen]; omega) (by omega) (Hb7.out.size) ?_; intro v8 w8 hown8 hg8; have Hb8 := Lib.hid (below_apd Hb7.out Hown7.out hg8 (Nat.le_refl _) Hb7.out.size); obtain ⟨_, A8, c8, rfl, _⟩ := Rd.of_own hown8; have Hown8 := Lib.hid hown8; clear hown8 hg8 d0 d1 d2 d3) | (at_builtin; refine wpList_apr 59 63 _ 4 48 Try.underlying59 infoL rfl (by omega) _ _ rfl rfl wn.heap.size _ (c + 1) _ rfl Hown8.out b o 0 0 [] rfl rfl (by simp) (by simp) (by simp [maxLen]; omega) (by omega) (Hb8.out.size) ?_; intro v9 w9 hown9 hg9; have Hb9 := Lib.hid (below_apd Hb8.out Hown8.out hg9 (Nat.le_refl _) Hb8.out.size); obtain ⟨_, A9, c9, rfl, _⟩ := Rd.of_own hown9; have Hown9 := Lib.hid hown9; clear hown9 hg9))
                  go_ret2
                  exact RetLn_yes (by have := Hf.out; rw [List.drop_of_length_le (by omega)] at this; exact this) (OwnL.mid (ys := []) (x := ⟨xa, xb, xf, xt⟩) Hown9.out Hlt.out rfl hb0.out.size) (hb0.out.trans (Hb9.out.mono hb0.out.size))
                · go_wp2_with (first | (at_builtin; refine wpList_apr 59 63 _ 4 48 Try.underlying59 infoL rfl (by omega) _ _ rfl rfl wn.heap.size _ 0 _ rfl ho0.out b o at' _ ((xs.take at').flatMap cellsL) rfl Hl1.out (HLb.out.head at') (cellsL_one _) (by simp [maxLen]; omega) (by omega) hba.out.size ?_; intro v7 w7 hown7 hg7; obtain ⟨_, A7, c7, rfl, _⟩ := Rd.of_own hown7; have Hb7 := Lib.hid (below_apd hba.out ho0.out hg7 (Nat.le_refl _) hba.out.size); simp only [Nat.zero_add, List.nil_append] at hown7; have Hown7 := Lib.hid hown7; clear hown7 hg7; obtain ⟨d0, d1, d2, d3⟩ := four_at ((Hb7.out.block _ hlw).trans Hnw.out)) | (at_builtin; refine wpList_apd 59 63 _ 4 48 Try.underlying59 infoL rfl (by omega) _ _ rfl rfl wn.heap.size _ at' _ rfl Hown7.out #[.string xa, .string xb, .int .i64 xf, .int .i64 xt] 1 1 rfl rfl (by simp [Value.oneCell']) (by simp [maxLen]; omega) (by omega) (Hb7.out.size) ?_; intro v8 w8 hown8 hg8; have Hb8 := Lib.hid (below_apd Hb7.out Hown7.out hg8 (Nat.le_refl _) Hb7.out.size); obtain ⟨_, A8, c8, rfl, _⟩ := Rd.of_own hown8; have Hown8 := Lib.hid hown8; clear hown8 hg8 d0 d1 d2 d3) | (at_builtin; refine wpList_apr 59 63 _ 4 48 Try.underlying59 infoL rfl (by omega) _ _ rfl rfl wn.heap.size _ (at' + 1) _ rfl Hown8.out b (o + at' * 4) (xs.length - at') _ ((xs.drop at').flatMap cellsL) rfl Hl2.out ((HL.out.below (Hb8.out.mono hzB)).tail at' (by omega)) (cellsL_one _) (by simp [maxLen]; omega) (by omega) (Hb8.out.size) ?_; intro v9 w9 hown9 hg9; have Hb9 := Lib.hid (below_apd Hb8.out Hown8.out hg9 (Nat.le_refl _) Hb8.out.size); obtain ⟨_, A9, c9, rfl, _⟩ := Rd.of_own hown9; have Hown9 := Lib.hid hown9; clear hown9 hg9))
                  go_ret2
                  exact RetLn_yes Hf.out (OwnL.mid (x := ⟨xa, xb, xf, xt⟩) Hown9.out Hlt.out (by rw [List.length_drop]) hb0.out.size) (hb0.out.trans (Hb9.out.mono hb0.out.size))
              · have hda := Hd2.out.trans hd
                clear hd Hd2
                obtain rfl : at' = k := hda
                obtain ⟨b1, o1, hA, hE⟩ := (HL.out.below (hbl.mono hzB)).atD m (by omega)
                obtain ⟨rfl, rfl⟩ : b = b1 ∧ o = o1 := by simpa using hA
                clear hA
                have HB := Lib.hid (l23Before_any wn.heap.size B w.heap.size 0 b (o + m * 4) ⟨xa, xb, xf, xt⟩ (atL xs m) wr (HX.out _ hbl) hE)
                (try dsimp only at gb)
                rw [gb] at HB
                have hk0 : decide (0 < at') = true := decide_eq_true (by omega)
                have hm1 : IntKind.i64.wrap ((at' : Int) - 1) = (m : Int) := by rw [IntWalk.i64_in _ (by omega)]; omega
                have hm3 : (at' : Int) - 1 = (m : Int) := by omega
                have hm2 : (m : Int) < (xs.length : Int) := by omega
                have Hm := Lib.hid hm
                have Hbl2 := Lib.hid hbl
                clear gb hm hE hbl
                go_wp2_with fail
                refine HB.out.mono ?_; rintro e w5 ⟨rfl, n5, rfl⟩
                clear hm1 hm3
                have hzr : wn.heap.size ≤ wr.heap.size := Hbl2.out.size
                have hkc : at' ≤ c := by omega
                have ho0 := Lib.hid (World.ownsRow_made (base := wn.heap.size) (e := 63) (size := 4) (wr.drewN n5) #[] 0 (by first | exact hzr | (simp; exact hzr)) (by simp [maxLen]) rfl)
                have hba := Lib.hid ((below_drewN Hbl2.out n5).alloc (by first | exact hzr | (simp; exact hzr)) (.cells #[] 63))
                have HLb := Lib.hid (HL.out.below (hba.out.mono hzB))
                have Hl1 := Lib.hid (show ((xs.take at').flatMap cellsL).length = at' * 4 by rw [flat_len cellsL 4 (fun _ => rfl), List.length_take]; omega)
                have Hl2 := Lib.hid (show ((xs.drop at').flatMap cellsL).length = (xs.length - at') * 4 by rw [flat_len cellsL 4 (fun _ => rfl), List.length_drop])
                have Hlt := Lib.hid (show (xs.take at').length = at' by rw [List.length_take]; omega)
                by_cases hcap : c = at'
                · obtain rfl : c = at' := hcap
                  go_wp2_with (first | (at_builtin; refine wpList_apr 59 63 _ 4 48 Try.underlying59 infoL rfl (by omega) _ _ rfl rfl wn.heap.size _ 0 _ rfl ho0.out b o c _ ((xs.take c).flatMap cellsL) rfl Hl1.out (HLb.out.head c) (cellsL_one _) (by simp [maxLen]; omega) (by omega) hba.out.size ?_; intro v7 w7 hown7 hg7; obtain ⟨_, A7, c7, rfl, _⟩ := Rd.of_own hown7; have Hb7 := Lib.hid (below_apd hba.out ho0.out hg7 (Nat.le_refl _) hba.out.size); simp only [Nat.zero_add, List.nil_append] at hown7; have Hown7 := Lib.hid hown7; clear hown7 hg7; obtain ⟨d0, d1, d2, d3⟩ := four_at ((Hb7.out.block _ hlw).trans Hnw.out)) | (at_builtin; refine wpList_apd 59 63 _ 4 48 Try.underlying59 infoL rfl (by omega) _ _ rfl rfl wn.heap.size _ c _ rfl Hown7.out #[.string xa, .string xb, .int .i64 xf, .int .i64 xt] 1 1 rfl rfl (by simp [Value.oneCell']) (by simp [maxLen]; omega) (by omega) (Hb7.out.size) ?_; intro v8 w8 hown8 hg8; have Hb8 := Lib.hid (below_apd Hb7.out Hown7.out hg8 (Nat.le_refl _) Hb7.out.size); obtain ⟨_, A8, c8, rfl, _⟩ := Rd.of_own hown8; have Hown8 := Lib.hid hown8; clear hown8 hg8 d0 d1 d2 d3) | (at_builtin; refine wpList_apr 59 63 _ 4 48 Try.underlying59 infoL rfl (by omega) _ _ rfl rfl wn.heap.size _ (c + 1) _ rfl Hown8.out b o 0 0 [] rfl rfl (by simp) (by simp) (by simp [maxLen]; omega) (by omega) (Hb8.out.size) ?_; intro v9 w9 hown9 hg9; have Hb9 := Lib.hid (below_apd Hb8.out Hown8.out hg9 (Nat.le_refl _) Hb8.out.size); obtain ⟨_, A9, c9, rfl, _⟩ := Rd.of_own hown9; have Hown9 := Lib.hid hown9; clear hown9 hg9))
                  go_ret2
                  exact RetLn_yes (by have := Hf.out; rw [List.drop_of_length_le (by omega)] at this; exact this) (OwnL.mid (ys := []) (x := ⟨xa, xb, xf, xt⟩) Hown9.out Hlt.out rfl hb0.out.size) (hb0.out.trans (Hb9.out.mono hb0.out.size))
                · go_wp2_with (first | (at_builtin; refine wpList_apr 59 63 _ 4 48 Try.underlying59 infoL rfl (by omega) _ _ rfl rfl wn.heap.size _ 0 _ rfl ho0.out b o at' _ ((xs.take at').flatMap cellsL) rfl Hl1.out (HLb.out.head at') (cellsL_one _) (by simp [maxLen]; omega) (by omega) hba.out.size ?_; intro v7 w7 hown7 hg7; obtain ⟨_, A7, c7, rfl, _⟩ := Rd.of_own hown7; have Hb7 := Lib.hid (below_apd hba.out ho0.out hg7 (Nat.le_refl _) hba.out.size); simp only [Nat.zero_add, List.nil_append] at hown7; have Hown7 := Lib.hid hown7; clear hown7 hg7; obtain ⟨d0, d1, d2, d3⟩ := four_at ((Hb7.out.block _ hlw).trans Hnw.out)) | (at_builtin; refine wpList_apd 59 63 _ 4 48 Try.underlying59 infoL rfl (by omega) _ _ rfl rfl wn.heap.size _ at' _ rfl Hown7.out #[.string xa, .string xb, .int .i64 xf, .int .i64 xt] 1 1 rfl rfl (by simp [Value.oneCell']) (by simp [maxLen]; omega) (by omega) (Hb7.out.size) ?_; intro v8 w8 hown8 hg8; have Hb8 := Lib.hid (below_apd Hb7.out Hown7.out hg8 (Nat.le_refl _) Hb7.out.size); obtain ⟨_, A8, c8, rfl, _⟩ := Rd.of_own hown8; have Hown8 := Lib.hid hown8; clear hown8 hg8 d0 d1 d2 d3) | (at_builtin; refine wpList_apr 59 63 _ 4 48 Try.underlying59 infoL rfl (by omega) _ _ rfl rfl wn.heap.size _ (at' + 1) _ rfl Hown8.out b (o + at' * 4) (xs.length - at') _ ((xs.drop at').flatMap cellsL) rfl Hl2.out ((HL.out.below (Hb8.out.mono hzB)).tail at' (by omega)) (cellsL_one _) (by simp [maxLen]; omega) (by omega) (Hb8.out.size) ?_; intro v9 w9 hown9 hg9; have Hb9 := Lib.hid (below_apd Hb8.out Hown8.out hg9 (Nat.le_refl _) Hb8.out.size); obtain ⟨_, A9, c9, rfl, _⟩ := Rd.of_own hown9; have Hown9 := Lib.hid hown9; clear hown9 hg9))
                  go_ret2
                  exact RetLn_yes Hf.out (OwnL.mid (x := ⟨xa, xb, xf, xt⟩) Hown9.out Hlt.out (by rw [List.length_drop]) hb0.out.size) (hb0.out.trans (Hb9.out.mono hb0.out.size))
end Go.Proofs.Ytfaoilonkonmkaa
