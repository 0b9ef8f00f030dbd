/- Loans, part 18 (printed by genlo18.py): the law FnExactReturnEarly. -/
import Derived.Test.YtfaoilonkonmkaaLo15
import Derived.Test.YtfaoilonkonmkaaLo17
namespace Go.Proofs.Ytfaoilonkonmkaa
open Go.RowKit Go.Joins

set_option maxRecDepth 100000 in
set_option maxHeartbeats 3200000 in
theorem walkFnExactReturnEarly {W : World} (v1 : Value) (xs : List Ln) (h1 : RdL W W.heap.size v1 xs) (m1 : xs.length ≤ maxLen ∧ ∀ x ∈ xs, lenL x) (x : ByteArray) (mx : x.size ≤ maxLen) (d : Int) (_wd : (Lit.int .i64 d).wf = true) :
    Calls Try.prog 10 #[v1, .string x, .int .i64 d] W fun e w' => e = .returned (.bool true) ∧ Below W.heap.size W w' := by
  have HD1 := Lib.hid (fun (s1 : xs.length ≤ 1048576) (hsm : ∀ x ∈ xs, smL x) wx b hx => ReturnS_any wx.heap.size b 0 xs.length xs x d wx hx (Nat.le_refl _) s1 hsm)
  have HD2 := Lib.hid (fun (s1 : xs.length ≤ 1048576) (hsm : ∀ x ∈ xs, smL x) wx b hx => ReturnI_any wx.heap.size b 0 xs.length xs x d wx hx (Nat.le_refl _) s1 hsm (Nat.le_refl _) (by simp only [maxLen]; omega))
  have hlenR := retR_len xs x d
  unfold RetLn OwnL at HD1 HD2
  generalize retR xs x d = L at *
  generalize askLc xs x d = C at *
  generalize hn : L.length = n at *
  have Hn := Lib.hid hn; clear hn
  have hb0 := Lib.hid (Below.refl W.heap.size W)
  have hzB : W.heap.size ≤ W.heap.size := Nat.le_refl _
  have HS1 := Lib.hid (szLoanS_any W.heap.size v1 xs 1048576 W h1 (Nat.le_refl _) m1.1 m1.2 (by omega) (by omega))
  have HT1 := Lib.hid (fun wx hx hz hl => toLoanS_b W.heap.size v1 xs wx hx hz hl)
  have HU1 := Lib.hid (fun wx hx hz hl => toLoanS_any W.heap.size v1 xs wx hx hz hl)
  have HL := Lib.hid h1
  obtain ⟨A1, c1, rfl⟩ := h1.slice
  simp only [maxLen] at mx
  clear h1 m1 _wd
  by_cases n0 : 1048576 < x.size
  · have n0' : (1048576 : Int) < (x.size : Int) := by omega
    go_enter Try.func10, Try.ntmps10
    go_wp2_with fail
    go_ret
    exact ⟨rfl, hb0.out⟩
  have n0' : ¬ ((1048576 : Int) < (x.size : Int)) := by omega
  go_enter Try.func10, Try.ntmps10
  go_wp2_with fail
  refine HS1.out.mono ?_; rintro e w1 ⟨r, rfl, hr1, hr2, hacc⟩
  have Hr2 := Lib.hid hr2; clear hr2
  by_cases n1 : r < 0
  · go_wp2_with fail
    go_ret
    exact ⟨rfl, hacc⟩
  have s1 := (Hr2.out (by omega)).1
  have Hsm := Lib.hid (Hr2.out (by omega)).2
  replace HD1 := Lib.hid (HD1.out s1 Hsm.out)
  replace HD2 := Lib.hid (HD2.out s1 Hsm.out)
  have hlen : n ≤ 1048577 := by omega
  clear hlenR Hsm Hr2 HS1 n0 n0' mx
  go_wp2_with fail
  refine (HT1.out _ (HL.out.below hacc) hacc.size s1).mono ?_; rintro e w3 ⟨b3, rfl, he3, hb3⟩
  have hacc' := hacc.trans (hb3.mono hacc.size); clear hacc; have hacc := hacc'; clear hacc'
  have He3 := Lib.hid he3
  clear he3 hb3
  go_wp2_with fail
  refine (HD1.out _ _ He3.out).mono ?_; rintro e w5 ⟨v5, rfl, ho5, hb5⟩
  obtain ⟨_, A5, c5, rfl, _⟩ := Rd.of_own ho5
  have hacc' := hacc.trans (hb5.mono hacc.size); clear hacc; have hacc := hacc'; clear hacc'
  have R5 := Lib.hid (Rd.of_own ho5)
  have hb05 := Lib.hid hacc
  clear ho5 hb5 He3
  go_wp2_with fail
  refine (HU1.out _ (HL.out.below (hacc.mono hzB)) (Nat.le_trans hzB hacc.size) s1).mono ?_; rintro e w6 ⟨rfl, ho6, hb6⟩
  have hacc' := hacc.trans (hb6.mono hacc.size); clear hacc; have hacc := hacc'; clear hacc'
  have B6 := Lib.hid hb6
  have hz6 := hb6.size
  have Ho6 := Lib.hid ho6
  have hlt6 := (ho6.lt _ rfl).2
  clear ho6 hb6
  clear hacc
  go_wp2_with fail
  refine (HD2.out w6 _ (Rd.of_own Ho6.out)).mono ?_; rintro e w8 ⟨v8, rfl, ho8, hb8⟩
  have B68 := Lib.hid hb8
  have Ho8 := Lib.hid ho8
  obtain ⟨_, A8, c8, rfl, _⟩ := Rd.of_own ho8
  clear ho8 hb8
  have HE := Lib.hid (eqLoanS_same _ _ (.slice A8 n c8) (.slice A5 n c5) L w8 (by unfold RdL; rw [Hn.out]; exact Rd.of_own Ho8.out) (by unfold RdL; rw [Hn.out]; exact R5.out.below (B6.out.trans (B68.out.mono hz6))) (Nat.le_refl _) (Nat.le_trans hz6 B68.out.size) (by rw [Hn.out]; omega))
  go_wp2_with fail
  refine HE.out.mono ?_; rintro e w9 ⟨rfl, hb9⟩
  have B69 := Lib.hid (B68.out.trans (hb9.mono B68.out.size))
  have Ho9 := Lib.hid (own_below Ho8.out hb9)
  have hacc := hb05.out.trans ((B6.out.trans (B69.out.mono hz6)).mono hb05.out.size)
  clear HE hb9 B68 Ho8
  go_wp2_with fail
  refine (HT1.out _ (HL.out.below (hacc.mono hzB)) (Nat.le_trans hzB hacc.size) s1).mono ?_; rintro e w10 ⟨b10, rfl, he10, hb10⟩
  have B610 := Lib.hid (B69.out.trans (hb10.mono B69.out.size))
  have Ho10 := Lib.hid (own_below Ho9.out hb10)
  have HE := Lib.hid (eqLoanS_same _ _ _ _ xs w10 (RdL.below (Rd.of_own Ho6.out) B610.out) he10 B610.out.size (Nat.le_refl _) (by omega))
  clear hacc he10 hb10 B69 Ho9
  go_wp2_with fail
  refine HE.out.mono ?_; rintro e w11 ⟨rfl, hb11⟩
  have B611 := Lib.hid (B610.out.trans (hb11.mono B610.out.size))
  have Ho11 := Lib.hid (own_below Ho10.out hb11)
  clear HE hb11 B610 Ho10
  go_wp2_with fail
  refine (markLoanS_any _ _ 1 xs.length _ w11 (own_below Ho6.out B611.out) (by omega) (by omega)).mono ?_; rintro e w12 ⟨rfl, hg12, ho12⟩
  have hm12 : MK w5.heap.size w6.heap.size w11 w12 := (MK.refl _ _ _).step hg12 (fun g e => by cases e; exact ⟨Nat.le_refl _, hlt6⟩) (Nat.le_trans hz6 B611.out.size)
  have B512 := Lib.hid ((B6.out.trans (B611.out.mono hz6)).trans hm12.1)
  have Ho12 := Lib.hid (own_MK Ho11.out hm12 (Nat.le_refl _))
  have hz12 : w6.heap.size ≤ w12.heap.size := Nat.le_trans B611.out.size hm12.1.size
  clear hm12 hg12 ho12 Ho11 B611 B6 Ho6
  have HE := Lib.hid (eqLoanS_same _ _ (.slice A8 n c8) (.slice A5 n c5) L w12 (by unfold RdL; rw [Hn.out]; exact Rd.of_own Ho12.out) (by unfold RdL; rw [Hn.out]; exact R5.out.below B512.out) (Nat.le_refl _) B512.out.size (by rw [Hn.out]; omega))
  have hk1 : ¬ ((1 : Int) + 4 * (xs.length : Int) < 0) := by omega
  go_wp2_with fail
  refine HE.out.mono ?_; rintro e w13 ⟨rfl, hb13⟩
  have B513 := Lib.hid (B512.out.trans (hb13.mono B512.out.size))
  have Ho13 := Lib.hid (own_below Ho12.out hb13)
  clear HE hb13 B512 Ho12
  go_wp2_with fail
  refine (markLoanS_any _ _ 1 n _ w13 Ho13.out (by omega) (by omega)).mono ?_; rintro e w14 ⟨rfl, hg14, ho14⟩
  have B514 := Lib.hid (B513.out.grown hg14 B513.out.size (fun k hk => Nat.le_trans hz6 ((Ho13.out.lt k hk).1)))
  have Ho14 := Lib.hid ho14
  clear hg14 ho14 B513 Ho13
  have HE := Lib.hid (heldLoanS_any _ (.slice A8 n c8) 1 n w14 (by unfold RdL; rw [marksL_len]; exact Rd.of_own Ho14.out) (Nat.le_refl _) (by omega) (by omega))
  have hk2 : ¬ ((1 : Int) + 4 * (n : Int) < 0) := by omega
  go_wp2_with fail
  refine HE.out.mono ?_; rintro e w15 ⟨rfl, hb15⟩
  have B515 := Lib.hid (B514.out.trans (hb15.mono B514.out.size))
  have Ho15 := Lib.hid (own_below Ho14.out hb15)
  have hacc := hb05.out.trans (B515.out.mono hb05.out.size)
  clear HE hb15 B514 Ho14
  go_wp2_with fail
  refine (HT1.out _ (HL.out.below hacc) hacc.size s1).mono ?_; rintro e w16 ⟨b16, rfl, he16, hb16⟩
  have B516 := Lib.hid (B515.out.trans (hb16.mono B515.out.size))
  have Ho16 := Lib.hid (own_below Ho15.out hb16)
  clear hacc hb16 B515 Ho15
  go_wp2_with fail
  refine (HD2.out w16 _ he16).mono ?_; rintro e wq ⟨v17, rfl, ho17, hb17⟩
  obtain ⟨_, A17, c17, rfl, _⟩ := Rd.of_own ho17
  have B517 := Lib.hid (B516.out.trans (hb17.mono B516.out.size))
  have Ho17 := Lib.hid (own_below Ho16.out hb17)
  have HE := Lib.hid (eqLoanS_same _ _ _ _ L wq (by unfold RdL; rw [Hn.out]; exact Rd.of_own ho17) (by unfold RdL; rw [Hn.out]; exact R5.out.below B517.out) (Nat.le_refl _) B517.out.size (by rw [Hn.out]; omega))
  clear ho17 hb17 he16 B516 Ho16
  go_wp2_with fail
  refine HE.out.mono ?_; rintro e w18 ⟨rfl, hb18⟩
  have B518 := Lib.hid (B517.out.trans (hb18.mono B517.out.size))
  have Ho18 := Lib.hid (own_below Ho17.out hb18)
  clear HE hb18 B517 Ho17
  have HE := Lib.hid (heldLoanS_any _ (.slice A8 n c8) 1 n w18 (by unfold RdL; rw [marksL_len]; exact Rd.of_own Ho18.out) (Nat.le_refl _) (by omega) (by omega))
  go_wp2_with fail
  refine HE.out.mono ?_; rintro e w19 ⟨rfl, hb19⟩
  have B519 := B518.out.trans (hb19.mono B518.out.size)
  have hfin := Lib.hid (hb05.out.trans (B519.mono hb05.out.size))
  clear HE
  go_wp2_with fail
  go_ret
  exact ⟨rfl, hfin.out⟩
end Go.Proofs.Ytfaoilonkonmkaa
