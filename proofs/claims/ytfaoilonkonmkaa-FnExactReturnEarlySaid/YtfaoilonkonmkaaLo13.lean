/- Loans, part 13: a loan is added, the program's side. -/
import Derived.Test.YtfaoilonkonmkaaLo12
import Derived.Deep.RegionLaw
namespace Go.Proofs.Ytfaoilonkonmkaa
open Go.RowKit Go.Joins

set_option maxRecDepth 100000 in
set_option maxHeartbeats 6400000 in
theorem AddI_any (B b o c : Nat) (xs : List Ln) (x : Ln) (w : World) (h : RdL w B (.slice (some ⟨b, o, none⟩) xs.length c) xs) (hB : B ≤ w.heap.size) (hl : xs.length ≤ 1048576) (hsm : ∀ x ∈ xs, smL x) (hx : smL x) (hc : xs.length ≤ c) (hc2 : c ≤ maxLen) :
    Calls Try.prog 43 #[.slice (some ⟨b, o, none⟩) xs.length c, aggL x] w (RetLn (addC xs x) (addR xs x) w) := by
  have HV := Lib.hid (fun wx hx hz => ValidLoansI_any B (.slice (some ⟨b, o, none⟩) xs.length c) xs wx hx hz hl hsm (fun A n c' e => by injection e with _ e2 e3; exact ⟨by omega, by omega⟩))
  have H1 := Lib.hid (fun wx => validLoan_any x wx hx)
  have HC := Lib.hid (fun y wx => clashes_any x y wx)
  have HH := Lib.hid (fun y wx => ahead_any y x wx)
  have A1 := Lib.hid (add_1 (xs := xs) (x := x))
  have A2 := Lib.hid (add_2 (xs := xs) (x := x))
  have A9 := Lib.hid (add_9 (xs := xs) (x := x))
  have A5 := Lib.hid (add_5 (xs := xs) (x := x))
  have A0 := Lib.hid (add_0 (xs := xs) (x := x))
  have hal := addAt_le xs x
  have Hup := Lib.hid (addAt_up (xs := xs) (x := x))
  have Hln := Lib.hid (loansOk_len (xs := xs))
  have Hone := Lib.hid (cellsL_one [x])
  generalize addC xs x = C at *
  generalize addR xs x = R at *
  generalize addAt xs x = at' at *
  have H := Lib.hid h
  clear h hsm hx
  simp only [maxLen] at hc2
  obtain ⟨xa, xb, xf, xt⟩ := x
  (try dsimp only at HC HH H1)
  have hb0 := Lib.hid ((Below.refl w.heap.size w).alloc (Nat.le_refl _) (.cells #[.string xa, .string xb, .int .i64 xf, .int .i64 xt] 63))
  have Hnw := Lib.hid (heap_alloc_new w (.cells #[.string xa, .string xb, .int .i64 xf, .int .i64 xt] 63))
  have hlw : w.heap.size < (w.alloc (.cells #[.string xa, .string xb, .int .i64 xf, .int .i64 xt] 63)).heap.size := by simp
  have HL := Lib.hid (H.out.below (hb0.out.mono hB))
  have hzB : B ≤ (w.alloc (.cells #[.string xa, .string xb, .int .i64 xf, .int .i64 xt] 63)).heap.size := Nat.le_trans hB (Nat.le_of_lt hlw)
  cases g1 : loansOk xs with
  | false =>
    have Hf := Lib.hid (A1.out g1)
    rw [g1] at HV
    clear g1
    go_enter Try.func43, Try.ntmps43
    go_wp2_with fail
    refine (HV.out _ HL.out hzB).mono ?_; rintro e w1 ⟨rfl, hb1⟩
    go_wp2_with fail
    go_ret2
    exact RetLn_no Hf.out (hb0.out.trans (hb1.mono hb0.out.size))
  | true =>
    rw [g1] at HV
    cases g2 : loanOk ⟨xa, xb, xf, xt⟩ with
    | false =>
      have Hf := Lib.hid (A2.out g1 g2)
      rw [g2] at H1
      clear g1 g2
      go_enter Try.func43, Try.ntmps43
      go_wp2_with fail
      refine (HV.out _ HL.out hzB).mono ?_; rintro e w1 ⟨rfl, hb1⟩
      obtain ⟨d0, d1, d2, d3⟩ := four_at ((hb1.block _ hlw).trans Hnw.out)
      have hb01 := Lib.hid (hb0.out.trans (hb1.mono hb0.out.size))
      clear hb1
      go_wp2_with fail
      refine (H1.out _).mono ?_; rintro e w2 ⟨rfl, hb2⟩
      go_wp2_with fail
      go_ret2
      exact RetLn_no Hf.out (hb01.out.trans (hb2.mono hb01.out.size))
    | true =>
      have B9 := Lib.hid (A9.out g1 g2)
      have B5 := Lib.hid (A5.out g1 g2)
      have B0 := Lib.hid (A0.out g1 g2)
      have Bup := Lib.hid (Hup.out g1 g2)
      have hlen := Hln.out g1
      rw [g2] at H1
      clear g1 g2 A1 A2 A9 A5 A0 Hup Hln
      go_enter Try.func43, Try.ntmps43
      go_wp2_with fail
      generalize w.alloc (.cells #[.string xa, .string xb, .int .i64 xf, .int .i64 xt] 63) = wn at *
      refine (HV.out _ HL.out hzB).mono ?_; rintro e w1 ⟨rfl, hb1⟩
      obtain ⟨d0, d1, d2, d3⟩ := four_at ((hb1.block _ hlw).trans Hnw.out)
      go_wp2_with fail
      refine (H1.out _).mono ?_; rintro e w2 ⟨rfl, hb2⟩
      have hb02 := Lib.hid (hb1.trans (hb2.mono hb1.size))
      clear hb1 hb2 d0 d1 d2 d3
      go_wp2_with fail
      go_loopw [6, 18] (fun a i wr => ∃ k a0 : Nat, k ≤ xs.length ∧ a0 ≤ k ∧ chk k (hitI xs ⟨xa, xb, xf, xt⟩) = true ∧ upI (fun y => before y ⟨xa, xb, xf, xt⟩) xs 0 0 = upI (fun y => before y ⟨xa, xb, xf, xt⟩) (xs.drop k) k a0 ∧ a = .int .i64 a0 ∧ i = .int .i64 k ∧ Below wn.heap.size wn wr) (fun _ i _ => xs.length - (intOf i).toNat)
      case atStart => exact ⟨0, 0, Nat.zero_le _, Nat.le_refl _, rfl, rfl, rfl, rfl, hb02.out⟩
      case round =>
        obtain ⟨k, a0, hk, ha0, hall, hup, rfl, rfl, hbl⟩ := hrel
        have Hall := Lib.hid hall; clear hall
        have Hu := Lib.hid hup; clear hup
        obtain ⟨d0, d1, d2, d3⟩ := four_at ((hbl.block _ hlw).trans Hnw.out)
        by_cases hlt : k < xs.length
        · obtain ⟨b1, o1, hA, hE⟩ := (HL.out.below (hbl.mono hzB)).at k hlt
          obtain ⟨rfl, rfl⟩ : b = b1 ∧ o = o1 := by simpa using hA
          clear hA
          have hlt' : (k : Int) < (xs.length : Int) := by omega
          have K9 := Lib.hid (B9.out k hlt)
          have Kh := Lib.hid (hit_step hlt Hall.out)
          have Ku := Lib.hid (upI_at (fun y => before y ⟨xa, xb, xf, xt⟩) xs k a0 hlt)
          generalize xs[k] = y at *
          have HCy := Lib.hid (fun wx => HC.out y wx)
          have HHy := Lib.hid (fun wx => HH.out y wx)
          obtain ⟨ya, yb, yf, yt⟩ := y
          obtain ⟨_, e0, e1, e2, e3⟩ := hE
          dsimp only at e0 e1 e2 e3
          (try dsimp only at HCy HHy Ku)
          have hba := hbl.alloc hbl.size (.cells #[.string ya, .string yb, .int .i64 yf, .int .i64 yt] 63)
          have Hnb := Lib.hid (fun wx (hb : Below (wr.alloc (.cells #[.string ya, .string yb, .int .i64 yf, .int .i64 yt] 63)).heap.size (wr.alloc (.cells #[.string ya, .string yb, .int .i64 yf, .int .i64 yt] 63)) wx) => four_at ((hb.block _ (by simp)).trans (heap_alloc_new wr (.cells #[.string ya, .string yb, .int .i64 yf, .int .i64 yt] 63))))
          have Hba := Lib.hid hba
          have hz1 : b < wr.heap.size := World.block_lt_of_cell? wr _ e0
          have hz2 : w.heap.size < wr.heap.size := World.block_lt_of_cell? wr _ d0
          clear hba hbl
          cases gc : clash ⟨xa, xb, xf, xt⟩ ⟨ya, yb, yf, yt⟩ with
          | true =>
            have Hf := Lib.hid (K9.out gc)
            rw [gc] at HCy
            clear gc
            go_wp2_with fail
            refine (HCy.out _).mono ?_; rintro e w5 ⟨rfl, hb5⟩
            have hb05 := Hba.out.trans (hb5.mono Hba.out.size)
            go_wp2_with fail
            go_ret2
            exact RetLn_no Hf.out (hb0.out.trans (hb05.mono hb0.out.size))
          | false =>
            have Kh2 := Lib.hid (Kh.out gc)
            rw [gc] at HCy
            clear gc
            cases gb : before ⟨ya, yb, yf, yt⟩ ⟨xa, xb, xf, xt⟩ with
            | true =>
              rw [gb, if_pos rfl] at Ku
              rw [gb] at HHy
              clear gb
              go_wp2_with fail
              refine (HCy.out _).mono ?_; rintro e w5 ⟨rfl, hb5⟩
              have hb05 := Lib.hid (Hba.out.trans (hb5.mono Hba.out.size))
              obtain ⟨d0, d1, d2, d3⟩ := four_at ((hb05.out.block _ hlw).trans Hnw.out)
              obtain ⟨f0, f1, f2, f3⟩ := Hnb.out _ hb5
              clear hb5
              go_wp2_with fail
              refine (HHy.out _).mono ?_; rintro e w6 ⟨rfl, hb6⟩
              have hb06 := hb05.out.trans (hb6.mono hb05.out.size)
              go_wp2_with fail
              go_roundw
              case rel => exact ⟨k + 1, k + 1, by omega, by omega, Kh2.out, by rw [Hu.out, Ku.out], by go_num, by go_num, hb06⟩
              case measure => simp [intOf]; omega
            | false =>
              rw [gb, if_neg (by simp)] at Ku
              rw [gb] at HHy
              clear gb
              go_wp2_with fail
              refine (HCy.out _).mono ?_; rintro e w5 ⟨rfl, hb5⟩
              have hb05 := Lib.hid (Hba.out.trans (hb5.mono Hba.out.size))
              obtain ⟨d0, d1, d2, d3⟩ := four_at ((hb05.out.block _ hlw).trans Hnw.out)
              obtain ⟨f0, f1, f2, f3⟩ := Hnb.out _ hb5
              clear hb5
              go_wp2_with fail
              refine (HHy.out _).mono ?_; rintro e w6 ⟨rfl, hb6⟩
              have hb06 := hb05.out.trans (hb6.mono hb05.out.size)
              go_wp2_with fail
              go_roundw
              case rel => exact ⟨k + 1, a0, by omega, by omega, Kh2.out, by rw [Hu.out, Ku.out], rfl, by go_num, hb06⟩
              case measure => simp [intOf]; omega
        · obtain rfl : k = xs.length := by omega
          have hat : a0 = at' := by
            have := Hu.out
            rw [List.drop_length, Bup.out Hall.out] at this
            exact this.symm
          subst hat
          by_cases h60 : 60 ≤ xs.length
          · have Hf := Lib.hid (B5.out Hall.out h60)
            have hq : ((xs.length : Int) == 60) = true := by simp; omega
            have hq2 : (xs.length == 60) = true := by simp; omega
            go_wp2_with fail
            go_ret2
            exact RetLn_no Hf.out (hb0.out.trans (hbl.mono hb0.out.size))
          · have Hf := Lib.hid (B0.out Hall.out (by omega))
            have hq : ((xs.length : Int) == 60) = false := by simp; omega
            have hq2 : (xs.length == 60) = false := by simp; omega
            have hlr : w.heap.size ≤ wr.heap.size := by have := hbl.size; omega
            have ho0 := Lib.hid (World.ownsRow_made (base := wn.heap.size) (e := 63) (size := 4) wr #[] 0 hbl.size (by simp [maxLen]) rfl)
            have hba := Lib.hid (hbl.alloc hbl.size (.cells #[] 63))
            have HLb := Lib.hid (HL.out.below (hba.out.mono hzB))
            have hkc : a0 ≤ c := by omega
            have Hl1 := Lib.hid (show ((xs.take a0).flatMap cellsL).length = a0 * 4 by rw [flat_len cellsL 4 (fun _ => rfl), List.length_take]; omega)
            have Hl2 := Lib.hid (show ((xs.drop a0).flatMap cellsL).length = (xs.length - a0) * 4 by rw [flat_len cellsL 4 (fun _ => rfl), List.length_drop])
            have Hlt := Lib.hid (show (xs.take a0).length = a0 by rw [List.length_take]; omega)
            clear hbl
            by_cases hcap : c = a0
            · obtain rfl : c = a0 := hcap
              go_wp2_with (at_builtin; refine wpList_apr 59 63 _ 4 48 Try.underlying59 infoL rfl (by omega) _ _ rfl rfl wn.heap.size _ 0 _ rfl ho0.out b o c _ ((xs.take c).flatMap cellsL) rfl Hl1.out (HLb.out.head c) (cellsL_one _) (by simp [maxLen]; omega) (by omega) hba.out.size ?_; intro v7 w7 hown7 hg7; obtain ⟨_, A7, c7, rfl, _⟩ := Rd.of_own hown7; have Hb7 := Lib.hid (below_apd hba.out ho0.out hg7 (Nat.le_refl _) hba.out.size); simp only [Nat.zero_add, List.nil_append] at hown7; have Hown7 := Lib.hid hown7; clear hown7 hg7)
              obtain ⟨d0, d1, d2, d3⟩ := four_at ((Hb7.out.block _ hlw).trans Hnw.out)
              go_region_law ((first | (refine step_apd 59 63 _ 4 48 Try.underlying59 infoL rfl (by omega) _ _ (by rfl) (by rfl) wn.heap.size _ c _ (by rfl) Hown7.out #[.string xa, .string xb, .int .i64 xf, .int .i64 xt] 1 1 (by rfl) (by rfl) (by simp [Value.oneCell']) (by simp [maxLen]; omega) (by omega) (Hb7.out.size) ?_; intro v8 w8 hown8 hg8; have Hb8 := Lib.hid (below_apd Hb7.out Hown7.out hg8 (Nat.le_refl _) Hb7.out.size); obtain ⟨_, A8, c8, rfl, _⟩ := Rd.of_own hown8; have Hown8 := Lib.hid hown8; clear hown8 hg8) | (refine step_apr 59 63 _ 4 48 Try.underlying59 infoL rfl (by omega) _ _ (by rfl) (by rfl) wn.heap.size _ (c + 1) _ (by rfl) Hown8.out b o 0 0 [] (by rfl) (by rfl) (by simp) (by simp) (by simp [maxLen]; omega) (by omega) (Hb8.out.size) ?_; intro v9 w9 hown9 hg9; have Hb9 := Lib.hid (below_apd Hb8.out Hown8.out hg9 (Nat.le_refl _) Hb8.out.size); obtain ⟨_, A9, c9, rfl, _⟩ := Rd.of_own hown9; have Hown9 := Lib.hid hown9; clear hown9 hg9)))
              go_wp2_with fail
              go_ret2
              exact RetLn_yes (by have := Hf.out; rw [List.drop_of_length_le (by omega)] at this; exact this) (OwnL.mid (ys := []) (x := ⟨xa, xb, xf, xt⟩) Hown9.out Hlt.out rfl hb0.out.size) (hb0.out.trans (Hb9.out.mono hb0.out.size))
            · go_wp2_with (at_builtin; refine wpList_apr 59 63 _ 4 48 Try.underlying59 infoL rfl (by omega) _ _ rfl rfl wn.heap.size _ 0 _ rfl ho0.out b o a0 _ ((xs.take a0).flatMap cellsL) rfl Hl1.out (HLb.out.head a0) (cellsL_one _) (by simp [maxLen]; omega) (by omega) hba.out.size ?_; intro v7 w7 hown7 hg7; obtain ⟨_, A7, c7, rfl, _⟩ := Rd.of_own hown7; have Hb7 := Lib.hid (below_apd hba.out ho0.out hg7 (Nat.le_refl _) hba.out.size); simp only [Nat.zero_add, List.nil_append] at hown7; have Hown7 := Lib.hid hown7; clear hown7 hg7)
              obtain ⟨d0, d1, d2, d3⟩ := four_at ((Hb7.out.block _ hlw).trans Hnw.out)
              go_region_law ((first | (refine step_apd 59 63 _ 4 48 Try.underlying59 infoL rfl (by omega) _ _ (by rfl) (by rfl) wn.heap.size _ a0 _ (by rfl) Hown7.out #[.string xa, .string xb, .int .i64 xf, .int .i64 xt] 1 1 (by rfl) (by rfl) (by simp [Value.oneCell']) (by simp [maxLen]; omega) (by omega) (Hb7.out.size) ?_; intro v8 w8 hown8 hg8; have Hb8 := Lib.hid (below_apd Hb7.out Hown7.out hg8 (Nat.le_refl _) Hb7.out.size); obtain ⟨_, A8, c8, rfl, _⟩ := Rd.of_own hown8; have Hown8 := Lib.hid hown8; clear hown8 hg8) | (refine step_apr 59 63 _ 4 48 Try.underlying59 infoL rfl (by omega) _ _ (by rfl) (by rfl) wn.heap.size _ (a0 + 1) _ (by rfl) Hown8.out b (o + a0 * 4) (xs.length - a0) _ ((xs.drop a0).flatMap cellsL) (by rfl) Hl2.out ((HL.out.below (Hb8.out.mono hzB)).tail a0 (by omega)) (cellsL_one _) (by simp [maxLen]; omega) (by omega) (Hb8.out.size) ?_; intro v9 w9 hown9 hg9; have Hb9 := Lib.hid (below_apd Hb8.out Hown8.out hg9 (Nat.le_refl _) Hb8.out.size); obtain ⟨_, A9, c9, rfl, _⟩ := Rd.of_own hown9; have Hown9 := Lib.hid hown9; clear hown9 hg9)))
              go_wp2_with fail
              go_ret2
              exact RetLn_yes Hf.out (OwnL.mid (x := ⟨xa, xb, xf, xt⟩) Hown9.out Hlt.out (by rw [List.length_drop]) hb0.out.size) (hb0.out.trans (Hb9.out.mono hb0.out.size))
end Go.Proofs.Ytfaoilonkonmkaa
