/- Merged texts: Ld7, Lq4, Dl3, Dl5, Lq5. -/
import Derived.Test.YtmheijnckmlbnaaDoorGCardLoans7
import Derived.Test.YtmheijnckmlbnaaDoorGCardLoans6
import Derived.Test.YtmheijnckmlbnaaDoorGCardLoans2
import Derived.Test.YtmheijnckmlbnaaDoorGCardLoans1
/- Loans' texts, read by the program: ReadLoans. -/
namespace Go.Proofs.YtmheijnckmlbnaaDoor
open Go.RowKit Go.Joins

theorem W3.drewN {w : World} {g : Nat} {x a b : ByteArray} (h : W3 w g x a b) (n : Nat) : W3 (w.drewN n) g x a b := ⟨h.1, h.2, h.3, h.4⟩
theorem two2_no {x : ByteArray} (h : ¬ fnd2 46 x < x.size) : two2 x = none := by unfold two2; rw [if_neg h]
theorem two2_yes {x : ByteArray} (h : fnd2 46 x < x.size) : two2 x = both (readN (x.extract 0 (fnd2 46 x))) (readN (x.extract (fnd2 46 x + 2) x.size)) := by unfold two2; rw [if_pos h]
theorem cut2_yes (s : ByteArray) (c : UInt8) (w : World) (hs : s.size ≤ 1073741824) (h : fnd2 c s < s.size) : Calls Tryd.prog 59 #[.string s, .string ⟨#[c, c]⟩] w fun e w' => e = .returned (.tuple #[.string (s.extract 0 (fnd2 c s)), .string (s.extract (fnd2 c s + 2) s.size), .bool true]) ∧ ∃ n, w' = w.drewN n :=
  (cut2_any s c w hs).mono fun e w' ⟨h1, h2⟩ => ⟨by rwa [if_pos h] at h1, h2⟩
theorem cut2_no (s : ByteArray) (c : UInt8) (w : World) (hs : s.size ≤ 1073741824) (h : ¬ fnd2 c s < s.size) : Calls Tryd.prog 59 #[.string s, .string ⟨#[c, c]⟩] w fun e w' => e = .returned (.tuple #[.string s, .string ⟨#[]⟩, .bool false]) ∧ ∃ n, w' = w.drewN n :=
  (cut2_any s c w hs).mono fun e w' ⟨h1, h2⟩ => ⟨by rwa [if_neg h] at h1, h2⟩
theorem txL_of {s : ByteArray} {l : List ByteArray} (hl : linesB 10 s = some l) (ha : l.all okLn = true) (hk : loansOk (l.filterMap rdLn) = true) : txL (l.filterMap rdLn) = s := by
  unfold txL
  rw [if_pos hk, readLn_text l ha, linesB_text 10 s.size s (Nat.le_refl _) l hl]

set_option maxRecDepth 100000 in
set_option maxHeartbeats 3200000 in
theorem ReadLoansI_any (s : ByteArray) (w : World) (hs : s.size ≤ 1048576) (ht : Tab w) : Calls Tryd.prog 19 #[.string s] w (RetRn w (rdLoans s)) := by
  have HT := Lib.hid (textLines_any s w (by omega))
  have Ht := Lib.hid ht; clear ht
  cases hl : linesB 10 s with
  | none =>
    have Hr := Lib.hid (rdLoans_none hl)
    rw [hl] at HT
    clear hl
    go_enter Tryd.func19, Tryd.ntmps19
    go_wp2_with fail
    refine HT.out.mono ?_; rintro e w5 ⟨v5, rfl, _, hb5⟩
    have HB5 := Lib.hid hb5; clear hb5
    go_wp2_with fail
    go_ret2
    exact RetRn.none Hr.out HB5.out
  | some l =>
    have Hl := Lib.hid hl
    have hn6 := linesB_le hl
    have HM := Lib.hid (show ∀ z ∈ l, z.size ≤ 1048576 from fun z hz => Nat.le_trans (linesB_mem hl z hz) hs)
    rw [hl] at HT
    clear hl
    generalize hdl : l.length = n at *
    have Hdl := Lib.hid hdl; clear hdl
    go_enter Tryd.func19, Tryd.ntmps19
    go_wp2_with fail
    refine HT.out.mono ?_; rintro e w5 ⟨v5, rfl, ho5, hb5⟩
    obtain ⟨A5, c5, g5, rfl, hA5, hc5⟩ := own_strs0 (ho5 l rfl)
    rw [Hdl.out] at hA5 ⊢
    have HA5 := Lib.hid hA5
    have HC := Lib.hid hc5
    have HB5 := Lib.hid hb5
    have hb0 := Lib.hid ((Below.refl w5.heap.size w5).alloc (Nat.le_refl _) (.cells #[] 26))
    have ho0 := Lib.hid (World.ownsRow_made (base := w5.heap.size) (e := 26) (size := 4) w5 #[] 0 (Nat.le_refl _) (by simp [maxLen]) rfl)
    clear ho5 hb5 HT hA5 hc5
    go_wp2_with fail
    go_loopw [6, 27] (fun o i wr => ∃ k : Nat, k ≤ n ∧ i = .int .i64 (k : Int) ∧ (l.take k).all okLn = true ∧ wr.ownsRow w5.heap.size 26 4 o k (((l.take k).filterMap rdLn).flatMap cellsL) ∧ Below w5.heap.size w5 wr) (fun _ i _ => n - (intOf i).toNat)
    case atStart => exact ⟨0, Nat.zero_le _, rfl, rfl, ho0.out, hb0.out⟩
    case round =>
      obtain ⟨k, hk, rfl, hall, hown, hbl⟩ := hrel
      have Hown := Lib.hid hown
      have Hbl := Lib.hid hbl
      have Hall := Lib.hid hall
      obtain ⟨A6, c6, rfl⟩ := sl_of_own hown
      clear hown hall
      by_cases hlt : k < n
      · have hlt' : (k : Int) < (n : Int) := by omega
        have hkl : k < l.length := by rw [Hdl.out]; exact hlt
        obtain ⟨rfl, hlt5⟩ := HA5.out (by omega)
        have hce := (hbl.cell (p := ⟨g5, k, none⟩) hlt5).trans (HC.out k hkl)
        have hline := HM.out _ (List.getElem_mem hkl)
        have HP := Lib.hid (parts_any l[k] wr (by omega))
        have Hbad := Lib.hid (fun h => rdLoans_bad Hl.out k hkl (okLn_none h))
        have Hgood := Lib.hid (fun x h => okLn_step (x := x) hkl Hall.out h)
        unfold RetPs at HP
        generalize l[k] = line at *
        have hplen := splitB_len 32 line.size line (Nat.le_refl _)
        clear hbl
        by_cases h3 : (splitB 32 line).length = 3
        · obtain ⟨x, a, b, he⟩ := three_of h3
          have hmem := splitB_mem 32 line.size line (Nat.le_refl _)
          rw [he] at HP hmem
          have hx : x.size ≤ 1073741824 := Nat.le_trans (hmem x (by simp)) (by omega)
          have He := Lib.hid he
          clear he h3 hmem hplen
          go_wp2_with fail
          refine HP.out.mono ?_; rintro e w6 ⟨v6, rfl, ho6, hb6⟩
          obtain ⟨g6, c6', rfl, hw6⟩ := own_w3 ho6
          have W6 := Lib.hid hw6
          obtain ⟨l6, q0, q1, q2⟩ := hw6
          have Hb6 := Lib.hid (Hbl.out.trans (hb6.mono Hbl.out.size))
          have Ho6 := Lib.hid (own_below Hown.out hb6)
          clear ho6 hb6 HP Hown Hbl l6 hce
          go_wp2_with fail
          by_cases hf : fnd2 46 x < x.size
          · have HC2 := Lib.hid (fun wx => cut2_yes x 46 wx hx hf)
            have ht2 := two2_yes hf
            have HD1 := Lib.hid (fun wx hq => ReadDecimal_any (x.extract 0 (fnd2 46 x)) wx (by rw [ByteArray.size_extract]; omega) hq)
            have HD2 := Lib.hid (fun wx hq => ReadDecimal_any (x.extract (fnd2 46 x + 2) x.size) wx (by rw [ByteArray.size_extract]; omega) hq)
            unfold RetN1 at HD1 HD2
            have Hfin := Lib.hid (ll_fin He.out ht2)
            generalize x.extract 0 (fnd2 46 x) = p at *
            generalize x.extract (fnd2 46 x + 2) x.size = q at *
            generalize (readN p).getD 0 = f at *
            generalize (readN q).getD 0 = t at *
            generalize (readN p).isSome = o1 at *
            generalize (readN q).isSome = o2 at *
            clear ht2 hf
            refine (HC2.out _).mono ?_; rintro e w7 ⟨rfl, n7, hw7⟩
            have Hb7 := Lib.hid (show Below w5.heap.size w5 w7 from hw7 ▸ below_drewN Hb6.out n7)
            have Ho7 := Lib.hid (show w7.ownsRow w5.heap.size 26 4 (.slice A6 k c6) k (((l.take k).filterMap rdLn).flatMap cellsL) from hw7 ▸ Ho6.out.drewN n7)
            have W7 := Lib.hid (show W3 w7 g6 x a b from hw7 ▸ W6.out.drewN n7)
            clear hw7 Hb6 Ho6 W6 HC2 q0 q1 q2
            go_wp2_with fail
            refine (HD1.out _ (Ht.out.below (HB5.out.trans (Hb7.out.mono HB5.out.size)))).mono ?_; rintro e w8 ⟨rfl, hb8⟩
            have Hb8 := Lib.hid (Hb7.out.trans (hb8.mono Hb7.out.size))
            have Ho8 := Lib.hid (own_below Ho7.out hb8)
            have W8 := Lib.hid (W7.out.next hb8)
            clear hb8 Hb7 Ho7 W7 HD1
            go_wp2_with fail
            refine (HD2.out _ (Ht.out.below (HB5.out.trans (Hb8.out.mono HB5.out.size)))).mono ?_; rintro e w9 ⟨rfl, hb9⟩
            have Hb9 := Lib.hid (Hb8.out.trans (hb9.mono Hb8.out.size))
            have Ho9 := Lib.hid (own_below Ho8.out hb9)
            have W9 := Lib.hid (W8.out.next hb9)
            clear hb9 Hb8 Ho8 W8 HD2
            cases hr : rdLn line with
            | none =>
              have Hr := Lib.hid (Hbad.out hr)
              have ho12 := Hfin.out.1
              rw [hr] at ho12
              clear hr Hbad Hgood Hfin
              cases o1 with
              | false =>
                clear ho12
                go_wp2_with fail
                go_ret2
                exact RetRn.none Hr.out (HB5.out.trans (Hb9.out.mono HB5.out.size))
              | true =>
                cases o2 with
                | true => cases ho12
                | false =>
                  clear ho12
                  go_wp2_with fail
                  go_ret2
                  exact RetRn.none Hr.out (HB5.out.trans (Hb9.out.mono HB5.out.size))
            | some y =>
              have ho12 := Hfin.out.1
              rw [hr] at ho12
              have hy := Hfin.out.2 y hr
              subst hy
              obtain ⟨hall2, hfl⟩ := Hgood.out _ hr
              have Hall2 := Lib.hid hall2
              have Hfl := Lib.hid hfl
              have Hon := Lib.hid (ones4 a b f t)
              have hz9 := Hb9.out.size
              obtain ⟨l9, _, q1, q2⟩ := W9.out
              have Hmx := Lib.hid (show k + 1 ≤ maxLen by simp only [maxLen]; omega)
              have Hby := Lib.hid (show (k + 1) * 48 ≤ 140737488355328 by omega)
              clear hr Hbad Hgood Hfin hall2 hfl
              cases o1 with
              | false => cases ho12
              | true =>
                cases o2 with
                | false => cases ho12
                | true =>
                  clear ho12
                  go_wp2_with fail
                  refine wp_region_noPanic ?_
                  refine wp_region_L [12,11] (fun w' => w'.cell? ⟨g6, 1, none⟩ = some (.string a) ∧ w'.cell? ⟨g6, 2, none⟩ = some (.string b)) (by kernel_rfl) (⟨q1, q2⟩) (fun hHeld => ?_)
                  refine take_F (i := 0) (d := some 64) (v := ?_) (by kernel_rfl) (by kernel_rfl) rfl rfl (by kernel_rfl) (by kernel_rfl) (by kernel_rfl) (fun _ _ _ h => h) (Or.inl ⟨by rfl, ?_⟩) (by assumption) ?_
                  rotate_left
                  · (intro w hSw; (try dsimp only at hSw); go_simp; (try rw [if_neg (by omega)]); (try (with_reducible rfl)))
                  simp only [Act.put, List.setIfInBounds_toArray, List.set_cons_zero, List.set_cons_succ]
                  refine take_F (i := 1) (d := some 65) (v := ?_) (by kernel_rfl) (by kernel_rfl) rfl rfl (by kernel_rfl) (by kernel_rfl) (by kernel_rfl) (fun _ _ _ h => h) (Or.inl ⟨by rfl, ?_⟩) (by assumption) ?_
                  rotate_left
                  · (intro w hSw; (try dsimp only at hSw); go_simp; (try rw [if_neg (by omega)]); (try (with_reducible rfl)))
                  simp only [Act.put, List.setIfInBounds_toArray, List.set_cons_zero, List.set_cons_succ]
                  refine take_F (i := 2) (d := some 66) (v := ?_) (by kernel_rfl) (by kernel_rfl) rfl rfl (by kernel_rfl) (by kernel_rfl) (by kernel_rfl) (fun _ _ _ h => h) (Or.inl ⟨by rfl, ?_⟩) (by assumption) ?_
                  rotate_left
                  · (intro w hSw; (try dsimp only at hSw); go_simp; (try rw [if_neg (by omega)]); (try (with_reducible rfl)))
                  simp only [Act.put, List.setIfInBounds_toArray, List.set_cons_zero, List.set_cons_succ]
                  refine take_L [10,9,3] (i := 3) (d := some 67) (v := ?_) (by kernel_rfl) (by kernel_rfl) (by kernel_rfl) (by kernel_rfl) rfl rfl (by kernel_rfl) (by kernel_rfl) (by kernel_rfl) (fun _ _ _ h => h) (Or.inl ⟨by rfl, ?_⟩) (by assumption) ?_
                  rotate_left
                  · (intro w hSw; (try dsimp only at hSw); go_simp; (try rw [if_neg (by omega)]); (try (with_reducible rfl)))
                  simp only [Act.put, List.setIfInBounds_toArray, List.set_cons_zero, List.set_cons_succ]
                  refine take_F (i := 4) (d := some 68) (v := ?_) (by kernel_rfl) (by kernel_rfl) rfl rfl (by kernel_rfl) (by kernel_rfl) (by kernel_rfl) (fun _ _ _ h => h) (Or.inl ⟨by rfl, ?_⟩) (by assumption) ?_
                  rotate_left
                  · (intro w hSw; (try dsimp only at hSw); go_simp; (try rw [if_neg (by omega)]); (try (with_reducible rfl)))
                  simp only [Act.put, List.setIfInBounds_toArray, List.set_cons_zero, List.set_cons_succ]
                  refine take_F (i := 5) (d := some 69) (v := ?_) (by kernel_rfl) (by kernel_rfl) rfl rfl (by kernel_rfl) (by kernel_rfl) (by kernel_rfl) (fun _ _ _ h => h) (Or.inl ⟨by rfl, ?_⟩) (by assumption) ?_
                  rotate_left
                  · (intro w hSw; (try dsimp only at hSw); go_simp; (try rw [if_neg (by omega)]); (try (with_reducible rfl)))
                  simp only [Act.put, List.setIfInBounds_toArray, List.set_cons_zero, List.set_cons_succ]
                  refine take_L [10,9,6] (i := 6) (d := some 70) (v := ?_) (by kernel_rfl) (by kernel_rfl) (by kernel_rfl) (by kernel_rfl) rfl rfl (by kernel_rfl) (by kernel_rfl) (by kernel_rfl) (fun _ _ _ h => h) (Or.inl ⟨by rfl, ?_⟩) (by assumption) ?_
                  rotate_left
                  · (intro w hSw; (try dsimp only at hSw); go_simp; (try rw [if_neg (by omega)]); (try (with_reducible rfl)))
                  simp only [Act.put, List.setIfInBounds_toArray, List.set_cons_zero, List.set_cons_succ]
                  refine take_F (i := 7) (d := some 71) (v := ?_) (by kernel_rfl) (by kernel_rfl) rfl rfl (by kernel_rfl) (by kernel_rfl) (by kernel_rfl) (fun _ _ _ h => h) (Or.inl ⟨by rfl, ?_⟩) (by assumption) ?_
                  rotate_left
                  · (intro w hSw; (try dsimp only at hSw); go_simp; (try rw [if_neg (by omega)]); (try (with_reducible rfl)))
                  simp only [Act.put, List.setIfInBounds_toArray, List.set_cons_zero, List.set_cons_succ]
                  refine take_F (i := 8) (d := some 72) (v := ?_) (by kernel_rfl) (by kernel_rfl) rfl rfl (by kernel_rfl) (by kernel_rfl) (by kernel_rfl) (fun _ _ _ h => h) (Or.inl ⟨by rfl, ?_⟩) (by assumption) ?_
                  rotate_left
                  · (intro w hSw; (try dsimp only at hSw); go_simp; (try rw [if_neg (by omega)]); (try (with_reducible rfl)))
                  simp only [Act.put, List.setIfInBounds_toArray, List.set_cons_zero, List.set_cons_succ]
                  refine take_F (i := 9) (d := some 73) (v := ?_) (by kernel_rfl) (by kernel_rfl) rfl rfl (by kernel_rfl) (by kernel_rfl) (by kernel_rfl) (fun _ _ _ h => h) (Or.inl ⟨by rfl, ?_⟩) (by assumption) ?_
                  rotate_left
                  · (intro w hSw; (try dsimp only at hSw); go_simp; (try rw [if_neg (by omega)]); (try (with_reducible rfl)))
                  simp only [Act.put, List.setIfInBounds_toArray, List.set_cons_zero, List.set_cons_succ]
                  refine call_L (i := 10) (d := (some 74)) rfl rfl (by kernel_rfl) (fun Kq hKq => ?_)
                  go_simp
                  refine hKq.out _ _ (⟨cell_alloc (w := w9.drew) q1 _, cell_alloc (w := w9.drew) q2 _⟩) (fun hHeld => ?_)
                  clear hKq Kq
                  (try simp only [Act.put, List.setIfInBounds_toArray, List.set_cons_zero, List.set_cons_succ])
                  refine late_L (i := 11) (d := (some 75)) (by kernel_rfl) rfl rfl (by kernel_rfl) (fun Kq hKq => ?_)
                  refine step_apd 24 26 _ 4 48 Tryd.underlying24 infoL rfl (by omega) _ _ (by rfl) (by rfl) w5.heap.size _ k _ (by rfl) Ho9.out #[.string a, .string b, .int .i64 f, .int .i64 t] 1 1 (by rfl) (by rfl) Hon.out Hmx.out Hby.out hz9 ?_; intro v10 w10 hown10 hg10
                  have Hb10 := Lib.hid (below_apd Hb9.out Ho9.out hg10 (Nat.le_refl _) hz9)
                  have Ho10 := Lib.hid hown10
                  clear hown10 hg10
                  refine hKq.out _ _ ?_
                  clear hKq Kq
                  simp only [Act.put, List.setIfInBounds_toArray]
                  refine late_L (i := 12) (d := (some 6)) (by kernel_rfl) rfl rfl (by kernel_rfl) (fun Kq hKq => ?_)
                  go_simp
                  refine hKq.out _ _ ?_
                  clear hKq Kq
                  refine done_L (by kernel_rfl) ?_ _
                  refine NoPanic.normal ?_
                  (try go_wp2_with fail)
                  go_roundw
                  case rel => exact ⟨k + 1, by omega, by go_num, Hall2.out, by rw [Hfl.out, ← ln_snoc]; exact Ho10.out, Hb10.out⟩
                  case measure => simp [intOf]; omega
          · have HC2 := Lib.hid (fun wx => cut2_no x 46 wx hx hf)
            have HD1 := Lib.hid (fun wx hq => ReadDecimal_any x wx hx hq)
            have HD2 := Lib.hid (fun wx hq => ReadDecimal_any ⟨#[]⟩ wx (Nat.zero_le _) hq)
            unfold RetN1 at HD1 HD2
            have Hr := Lib.hid (Hbad.out (by rw [rdLn_three He.out, two2_no hf]; rfl))
            generalize (readN x).getD 0 = f at *
            generalize (readN ⟨#[]⟩).getD 0 = t at *
            generalize (readN x).isSome = o1 at *
            generalize (readN ⟨#[]⟩).isSome = o2 at *
            clear hf Hbad Hgood
            refine (HC2.out _).mono ?_; rintro e w7 ⟨rfl, n7, hw7⟩
            have Hb7 := Lib.hid (show Below w5.heap.size w5 w7 from hw7 ▸ below_drewN Hb6.out n7)
            clear hw7 Hb6 Ho6 W6 HC2 q0 q1 q2
            go_wp2_with fail
            refine (HD1.out _ (Ht.out.below (HB5.out.trans (Hb7.out.mono HB5.out.size)))).mono ?_; rintro e w8 ⟨rfl, hb8⟩
            have Hb8 := Lib.hid (Hb7.out.trans (hb8.mono Hb7.out.size))
            clear hb8 Hb7 HD1
            go_wp2_with fail
            refine (HD2.out _ (Ht.out.below (HB5.out.trans (Hb8.out.mono HB5.out.size)))).mono ?_; rintro e w9 ⟨rfl, hb9⟩
            have Hb9 := Lib.hid (Hb8.out.trans (hb9.mono Hb8.out.size))
            clear hb9 Hb8 HD2
            go_wp2_with fail
            go_ret2
            exact RetRn.none Hr.out (HB5.out.trans (Hb9.out.mono HB5.out.size))
        · have hnq : (((splitB 32 line).length : Int) == 3) = false := by rw [beq_eq_false_iff_ne]; omega
          have hnq2 : (((splitB 32 line).length : Int) != 3) = true := by simp [bne, hnq]
          have Hr := Lib.hid (Hbad.out (rdLn_not h3))
          clear Hbad Hgood h3
          go_wp2_with fail
          refine HP.out.mono ?_; rintro e w6 ⟨v6, rfl, ho6, hb6⟩
          obtain ⟨A6', c6', rfl⟩ := sl_of_own ho6
          have Hb6 := Lib.hid (Hbl.out.trans (hb6.mono Hbl.out.size))
          generalize (splitB 32 line).length = m at *
          clear ho6 hb6 HP Hown Hbl hce
          go_wp2_with fail
          go_ret2
          exact RetRn.none Hr.out (HB5.out.trans (Hb6.out.mono HB5.out.size))
      · have hkn : k = n := by omega
        subst hkn
        have hlt' : ¬ (k : Int) < (k : Int) := by omega
        have htk : l.take k = l := List.take_of_length_le (by rw [Hdl.out]; exact Nat.le_refl _)
        have hal := Hall.out
        have hown2 := Hown.out
        rw [htk] at hal hown2
        have hr := rdLoans_at Hl.out hal
        have hfl : (l.filterMap rdLn).length = k := (filter_len hal).trans Hdl.out
        have hO : OwnL wr w5.heap.size (.slice A6 k c6) (l.filterMap rdLn) := by unfold OwnL; rw [hfl]; exact hown2
        have hcap : ∀ A n c, Value.slice A6 k c6 = .slice A n c → n ≤ c ∧ c ≤ maxLen := fun A n c h => by
          injection h with _ h1 h2
          subst h1 h2
          exact own_cap hown2
        have HO := Lib.hid hO
        have hsm := filter_sm (l := l) (Nat.le_refl _) HM.out
        have HK := Lib.hid (ValidLoansI_any wr.heap.size _ (l.filterMap rdLn) wr hO.rd (Nat.le_refl _) (by rw [hfl]; omega) hsm hcap)
        have HX := Lib.hid (fun wx (hx : RdL wx wx.heap.size (.slice A6 k c6) (l.filterMap rdLn)) hq => LoansTextI_any wx.heap.size _ (l.filterMap rdLn) wx hx (Nat.le_refl _) (by rw [hfl]; omega) hsm hcap hq)
        have Htx := Lib.hid (fun h => txL_of Hl.out hal h)
        have Hbl2 := Lib.hid hbl
        clear hal hown2 htk hfl hO Hown Hall hcap hsm hbl
        cases hok : loansOk (l.filterMap rdLn) with
        | true =>
          have Hr := Lib.hid (hr.trans (if_pos hok))
          have htx := Htx.out hok
          rw [htx] at HX
          rw [hok] at HK
          clear hok hr htx Htx
          go_wp2_with fail
          refine HK.out.mono ?_; rintro e w9 ⟨rfl, hb9⟩
          have Hb9 := Lib.hid (Hbl.out.trans (hb9.mono Hbl.out.size))
          have HO9 := Lib.hid (own_below HO.out hb9)
          clear hb9
          go_wp2_with fail
          refine (HX.out _ (OwnL.rd HO9.out) (Ht.out.below (HB5.out.trans (Hb9.out.mono HB5.out.size)))).mono ?_; rintro e w10 ⟨rfl, hb10⟩
          have Hb10 := Lib.hid (Hb9.out.trans (hb10.mono Hb9.out.size))
          have HO10 := Lib.hid (own_below HO9.out hb10)
          clear hb10
          go_wp2_with fail
          go_ret2
          exact RetRn.some Hr.out (ownsRow_le HO10.out HB5.out.size) (HB5.out.trans (Hb10.out.mono HB5.out.size))
        | false =>
          have Hr := Lib.hid (hr.trans (if_neg (by rw [hok]; simp)))
          rw [hok] at HK
          clear hok hr Htx HX
          go_wp2_with fail
          refine HK.out.mono ?_; rintro e w9 ⟨rfl, hb9⟩
          have Hb9 := Lib.hid (Hbl.out.trans (hb9.mono Hbl.out.size))
          clear hb9
          go_wp2_with fail
          go_ret2
          exact RetRn.none Hr.out (HB5.out.trans (Hb9.out.mono HB5.out.size))
end Go.Proofs.YtmheijnckmlbnaaDoor
/- Loans: a text of loans is read back. -/
namespace Go.Proofs.YtmheijnckmlbnaaDoor

/-- the text does not hold the byte -/
def hasNo (c : UInt8) (x : ByteArray) : Prop := ∀ b ∈ x.data.toList, b ≠ c
theorem hasNo_app {c : UInt8} {x y : ByteArray} (h : hasNo c x) (k : hasNo c y) : hasNo c (x ++ y) := fun b hb => by
  have h2 : (x ++ y).data.toList = x.data.toList ++ y.data.toList := by simp
  rw [h2] at hb
  rcases List.mem_append.1 hb with hb | hb
  · exact h b hb
  · exact k b hb
theorem fnd_hasNo {c : UInt8} {x : ByteArray} (h : hasNo c x) : fnd c x = x.size := by
  unfold fnd
  rw [List.findIdx_eq_length_of_false (fun b hb => by simpa using h b hb)]
  simp
theorem fnd_cut {c : UInt8} {x y : ByteArray} (h : hasNo c x) : fnd c (x ++ ⟨#[c]⟩ ++ y) = x.size := by
  have h := fnd_hasNo h
  unfold fnd at *
  have h2 : (x ++ ⟨#[c]⟩ ++ y).data.toList = x.data.toList ++ (c :: y.data.toList) := by simp
  have h3 : x.data.toList.length = x.size := by simp
  rw [h2, List.findIdx_append]
  have hn : ¬ List.findIdx (fun z => z == c) x.data.toList < x.data.toList.length := by rw [h, h3]; omega
  rw [if_neg hn, List.findIdx_cons]
  simp
theorem cut_parts {c : UInt8} {x y : ByteArray} (h : hasNo c x) : fnd c (x ++ ⟨#[c]⟩ ++ y) < (x ++ ⟨#[c]⟩ ++ y).size ∧ (x ++ ⟨#[c]⟩ ++ y).extract 0 (fnd c (x ++ ⟨#[c]⟩ ++ y)) = x ∧ (x ++ ⟨#[c]⟩ ++ y).extract (fnd c (x ++ ⟨#[c]⟩ ++ y) + 1) (x ++ ⟨#[c]⟩ ++ y).size = y := by
  rw [fnd_cut h]
  have h1 : (⟨#[c]⟩ : ByteArray).size = 1 := rfl
  refine ⟨by rw [ByteArray.size_append, ByteArray.size_append, h1]; omega, ?_, ?_⟩
  · rw [ByteArray.append_assoc]
    exact ByteArray.extract_append_eq_left rfl
  · exact ByteArray.extract_append_eq_right (by rw [ByteArray.size_append]; rfl) (by rw [ByteArray.size_append])
theorem splitB_cut {c : UInt8} {x y : ByteArray} (h : hasNo c x) : splitB c (x ++ ⟨#[c]⟩ ++ y) = x :: splitB c y := by
  obtain ⟨h1, h2, h3⟩ := cut_parts (y := y) h
  rw [splitB_yes h1, h2, h3]
theorem splitB_last {c : UInt8} {x : ByteArray} (h : hasNo c x) : splitB c x = [x] := splitB_no (by rw [fnd_hasNo h]; exact Nat.le_refl _)
theorem linesB_cut {c : UInt8} {x y : ByteArray} (h : hasNo c x) : linesB c (x ++ ⟨#[c]⟩ ++ y) = (linesB c y).map (x :: ·) := by
  obtain ⟨h1, h2, h3⟩ := cut_parts (y := y) h
  rw [linesB_yes h1, h2, h3]
theorem dec_no {a : Int} (h : 0 ≤ a) {c : UInt8} (hc : isDg c = false) : hasNo c (decS a) := by
  obtain ⟨u, rfl⟩ : ∃ u : Nat, a = (u : Int) := ⟨a.toNat, by omega⟩
  have hs : decS (u : Int) = ⟨(Lib.decDigits u).toArray⟩ := by
    unfold decS Lib.itoa
    rw [if_neg (by omega)]; rfl
  intro b hb e
  rw [hs] at hb
  have := ((dec_facts u).1 b (by simpa using hb)).1
  rw [e, hc] at this; cases this
theorem nm_no {x : ByteArray} (h : isNm x.data.toList = true) {c : UInt8} (hc : okC c.toNat = false) : hasNo c x := by
  intro b hb e
  unfold isNm at h
  split at h
  · cases h
  · rename_i c0 t hx
    simp only [Bool.and_eq_true, List.all_eq_true] at h
    have := h.2 b (by rw [← hx]; exact hb)
    rw [e, hc] at this; cases this
/-- a line without its end -/
def bodyL (x : Ln) : ByteArray := decS x.from_ ++ ⟨#[46, 46]⟩ ++ decS x.till ++ ⟨#[32]⟩ ++ x.what ++ ⟨#[32]⟩ ++ x.who
theorem lineL_body (x : Ln) : lineL x = bodyL x ++ ⟨#[10]⟩ := rfl
theorem loan_nm {x : Ln} (h : loanOk x = true) : isNm x.what.data.toList = true ∧ isNm x.who.data.toList = true := by
  unfold loanOk at h
  simp only [Bool.and_eq_true] at h
  exact ⟨h.1.1.1.1, h.1.1.1.2⟩
theorem lit_no {c : UInt8} {l : Array UInt8} (h : l.toList.all (fun b => b != c) = true) : hasNo c ⟨l⟩ := fun b hb => by
  simpa using List.all_eq_true.1 h b hb
theorem bodyL_no {x : Ln} (h : loanOk x = true) : hasNo 10 (bodyL x) := by
  obtain ⟨h1, h2⟩ := loan_nm h
  have hd := loan_days h
  unfold bodyL
  exact hasNo_app (hasNo_app (hasNo_app (hasNo_app (hasNo_app (hasNo_app (dec_no (by omega) rfl) (lit_no rfl)) (dec_no (by omega) rfl)) (lit_no rfl)) (nm_no h1 rfl)) (lit_no rfl)) (nm_no h2 rfl)
theorem two2_days {a b : Int} (ha : 0 ≤ a) (hb : 0 ≤ b) (ha2 : a ≤ 100000) (hb2 : b ≤ 100000) : two2 (decS a ++ ⟨#[46, 46]⟩ ++ decS b) = some (a, b) := by
  have e1 : decS a ++ ⟨#[46, 46]⟩ ++ decS b = decS a ++ ⟨#[46]⟩ ++ (⟨#[]⟩ ++ ⟨#[46]⟩ ++ decS b) := by
    apply ByteArray.ext
    rw [← Array.toList_inj]
    simp
  have hs : splitB 46 (decS a ++ ⟨#[46, 46]⟩ ++ decS b) = [decS a, ⟨#[]⟩, decS b] := by
    rw [e1, splitB_cut (dec_no ha rfl), splitB_cut (lit_no rfl), splitB_last (dec_no hb rfl)]
  obtain ⟨h1, h2, h3⟩ := split3 hs rfl
  rw [two2_yes h1, ← h2, ← h3, readN_decS a (by omega) (by omega), readN_decS b (by omega) (by omega)]; rfl
theorem rdLn_body {x : Ln} (h : loanOk x = true) : rdLn (bodyL x) = some x := by
  obtain ⟨h1, h2⟩ := loan_nm h
  have hd := loan_days h
  have e1 : bodyL x = (decS x.from_ ++ ⟨#[46, 46]⟩ ++ decS x.till) ++ ⟨#[32]⟩ ++ (x.what ++ ⟨#[32]⟩ ++ x.who) := by unfold bodyL; apply ByteArray.ext; simp
  have hs : splitB 32 (bodyL x) = [decS x.from_ ++ ⟨#[46, 46]⟩ ++ decS x.till, x.what, x.who] := by
    rw [e1, splitB_cut (hasNo_app (hasNo_app (dec_no (by omega) rfl) (lit_no rfl)) (dec_no (by omega) rfl)), splitB_cut (nm_no h1 rfl), splitB_last (nm_no h2 rfl)]
  rw [rdLn_three hs, two2_days (by omega) (by omega) (by omega) (by omega)]; rfl
theorem textL_cons (x : Ln) (xs : List Ln) : textL (x :: xs) = bodyL x ++ ⟨#[10]⟩ ++ textL xs := by
  rw [← lineL_body]
  unfold textL
  apply ByteArray.ext
  simp
theorem linesB_textL : ∀ xs : List Ln, (∀ x ∈ xs, loanOk x = true) → linesB 10 (textL xs) = some (xs.map bodyL) := by
  intro xs
  induction xs with
  | nil => intro _; exact linesB_nil 10 _ rfl
  | cons x xs ih =>
    intro h
    rw [textL_cons, linesB_cut (bodyL_no (h x (by simp))), ih (fun y hy => h y (by simp [hy]))]
    rfl
theorem filterMap_body : ∀ xs : List Ln, (∀ x ∈ xs, loanOk x = true) → (xs.map bodyL).filterMap rdLn = xs := by
  intro xs
  induction xs with
  | nil => intro _; rfl
  | cons x xs ih =>
    intro h
    rw [List.map_cons, List.filterMap_cons, rdLn_body (h x (by simp)), ih (fun y hy => h y (by simp [hy]))]
theorem rdLoans_textL {xs : List Ln} (h : loansOk xs = true) : rdLoans (textL xs) = some xs := by
  have hP := OkP.of h
  have hall : ∀ x ∈ xs, loanOk x = true := fun x hx => by
    obtain ⟨i, hi, rfl⟩ := List.mem_iff_getElem.1 hx
    exact hP.one i hi
  have hl := linesB_textL xs hall
  have ha : (xs.map bodyL).all okLn = true := by
    rw [List.all_eq_true]
    intro z hz
    obtain ⟨x, hx, rfl⟩ := List.mem_map.1 hz
    exact okLn_some (rdLn_body (hall x hx))
  rw [rdLoans_at hl ha, filterMap_body xs hall, if_pos h]
/-- a text that is not empty is read back -/
theorem txL_back {xs : List Ln} (h : txL xs ≠ ⟨#[]⟩) : rdLoans (txL xs) = some xs := by
  unfold txL at *
  split
  · rename_i hk; exact rdLoans_textL hk
  · rename_i hk; rw [if_neg hk] at h; exact absurd rfl h
end Go.Proofs.YtmheijnckmlbnaaDoor
/- Lists of loans are compared (SameLoans). -/
namespace Go.Proofs.YtmheijnckmlbnaaDoor
open Go.RowKit Go.Joins

theorem take_eqL {xs ys : List Ln} (k : Nat) (hx : k < xs.length) (hy : k < ys.length) (h0 : xs.take k = ys.take k) (h : xs[k] = ys[k]) : xs.take (k + 1) = ys.take (k + 1) := by
  rw [List.take_succ_eq_append_getElem hx, List.take_succ_eq_append_getElem hy, h0, h]
theorem ne_ofL {xs ys : List Ln} (k : Nat) (hx : k < xs.length) (hy : k < ys.length) (h : xs[k] ≠ ys[k]) : decide (xs = ys) = false :=
  decide_eq_false fun e => h (by subst e; rfl)

set_option maxRecDepth 100000 in
set_option maxHeartbeats 1600000 in
theorem SameLI_any (B1 B2 : Nat) (v1 v2 : Value) (xs ys : List Ln) (w : World) (h1 : RdL w B1 v1 xs) (h2 : RdL w B2 v2 ys) (hx : xs.length ≤ 1048576) :
    Calls Tryd.prog 25 #[v1, v2] w fun e w' => e = .returned (.bool (decide (xs = ys))) ∧ ∃ n, w' = w.drewN n := by
  have H1 := Lib.hid h1
  have H2 := Lib.hid h2
  obtain ⟨A1, c1, rfl⟩ := h1.slice
  obtain ⟨A2, c2, rfl⟩ := h2.slice
  clear h1 h2
  by_cases hl : xs.length = ys.length
  · have hl' : ((xs.length : Int) == (ys.length : Int)) = true := by rw [beq_iff_eq]; omega
    have hl2 : ((xs.length : Int) != (ys.length : Int)) = false := by simp [bne, hl']
    have Hl := Lib.hid hl; clear hl
    go_enter Tryd.func25, Tryd.ntmps25
    go_wp2_with fail
    go_loopw [13] (fun i wr => ∃ k : Nat, k ≤ xs.length ∧ i = .int .i64 (k : Int) ∧ xs.take k = ys.take k ∧ ∃ n, wr = w.drewN n) (fun i _ => xs.length - (intOf i).toNat)
    case atStart => exact ⟨0, Nat.zero_le _, rfl, rfl, 0, rfl⟩
    case round =>
      obtain ⟨k, hk, rfl, htk, n0, rfl⟩ := hrel
      have Htk := Lib.hid htk
      clear htk
      by_cases hlt : k < xs.length
      · have hlt' : (k : Int) < (xs.length : Int) := by omega
        have hlt2 : (k : Int) < (ys.length : Int) := by have := Hl.out; omega
        have hky : k < ys.length := by have := Hl.out; omega
        obtain ⟨b1, o1, hA1, hE1⟩ := H1.out.at k hlt
        obtain ⟨b2, o2, hA2, hE2⟩ := H2.out.at k hky
        subst hA1 hA2
        have hkz : (0 : Int) ≤ (k : Int) := by omega
        have Hst := Lib.hid (fun h => take_eqL (xs := xs) (ys := ys) k hlt hky Htk.out h)
        have Hbad := Lib.hid (fun h => ne_ofL (xs := xs) (ys := ys) k hlt hky h)
        generalize xs[k] = x at *
        generalize ys[k] = y at *
        obtain ⟨a, b, f, t⟩ := x
        obtain ⟨a2, b2', f2, t2⟩ := y
        obtain ⟨_, p0, p1, p2, p3⟩ := hE1
        obtain ⟨_, q0, q1, q2, q3⟩ := hE2
        dsimp only at p0 p1 p2 p3 q0 q1 q2 q3
        by_cases he : (⟨a, b, f, t⟩ : Ln) = ⟨a2, b2', f2, t2⟩
        · have Hs2 := Lib.hid (Hst.out he)
          injection he with e1 e2 e3 e4
          subst e1 e2 e3 e4
          clear Hst Hbad
          go_wp2_with fail
          go_quiet (fail)
          go_wp2_with fail
          go_roundw
          case rel => exact ⟨k + 1, by omega, by go_num, Hs2.out, _, rfl⟩
          case measure => simp [intOf]; omega
        · have Hb2 := Lib.hid (Hbad.out he)
          clear Hst Hbad
          by_cases h1 : a = a2
          · subst h1
            by_cases h2 : b = b2'
            · subst h2
              by_cases h3 : f = f2
              · subst h3
                have h4 : (t == t2) = false := beq_eq_false_iff_ne.2 fun h => he (by rw [h])
                go_wp2_with fail
                go_quiet (fail)
                go_wp2_with fail
                go_ret
                exact ⟨by rw [Hb2.out]; rfl, _, World.drewN_drewN _ _ _⟩
              · have h4 : (f == f2) = false := beq_eq_false_iff_ne.2 h3
                go_wp2_with fail
                go_quiet (fail)
                go_wp2_with fail
                go_ret
                exact ⟨by rw [Hb2.out]; rfl, _, World.drewN_drewN _ _ _⟩
            · have h4 : (b.toList == b2'.toList) = false := beq_eq_false_iff_ne.2 fun h => h2 (ba_inj h)
              go_wp2_with fail
              go_quiet (fail)
              go_wp2_with fail
              go_ret
              exact ⟨by rw [Hb2.out]; rfl, _, World.drewN_drewN _ _ _⟩
          · have h4 : (a.toList == a2.toList) = false := beq_eq_false_iff_ne.2 fun h => h1 (ba_inj h)
            go_wp2_with fail
            go_quiet (fail)
            go_wp2_with fail
            go_ret
            exact ⟨by rw [Hb2.out]; rfl, _, World.drewN_drewN _ _ _⟩
      · have hkk : k = xs.length := by omega
        subst hkk
        have hlt' : (xs.length : Int) ≤ (xs.length : Int) := Int.le_refl _
        have he : xs = ys := by
          have h := Htk.out
          have h3 := Hl.out
          rw [List.take_length, h3, List.take_length] at h
          exact h
        have He := Lib.hid (decide_eq_true he)
        clear he
        go_wp2_with fail
        go_ret
        exact ⟨by rw [He.out]; rfl, n0, rfl⟩
  · have hl' : ((xs.length : Int) == (ys.length : Int)) = false := by rw [beq_eq_false_iff_ne]; omega
    have hl2 : ((xs.length : Int) != (ys.length : Int)) = true := by simp [bne, hl']
    have He := Lib.hid (show decide (xs = ys) = false from decide_eq_false (fun h => hl (by rw [h])))
    clear hl
    go_enter Tryd.func25, Tryd.ntmps25
    go_wp2_with fail
    go_ret
    exact ⟨by rw [He.out]; rfl, 0, rfl⟩

set_option maxRecDepth 100000 in
set_option maxHeartbeats 1600000 in
theorem SameLS_any (B1 B2 : Nat) (v1 v2 : Value) (xs ys : List Ln) (w : World) (h1 : RdL w B1 v1 xs) (h2 : RdL w B2 v2 ys) (hx : xs.length ≤ 1048576) :
    Calls Tryd.prog 23 #[v1, v2] w fun e w' => e = .returned (.bool (decide (xs = ys))) ∧ ∃ n, w' = w.drewN n := by
  have H1 := Lib.hid h1
  have H2 := Lib.hid h2
  obtain ⟨A1, c1, rfl⟩ := h1.slice
  obtain ⟨A2, c2, rfl⟩ := h2.slice
  clear h1 h2
  by_cases hl : xs.length = ys.length
  · have hl' : ((xs.length : Int) == (ys.length : Int)) = true := by rw [beq_iff_eq]; omega
    have hl2 : ((xs.length : Int) != (ys.length : Int)) = false := by simp [bne, hl']
    have Hl := Lib.hid hl; clear hl
    go_enter Tryd.func23, Tryd.ntmps23
    go_wp2_with fail
    go_loopw [5] (fun i wr => ∃ k : Nat, k ≤ xs.length ∧ i = .int .i64 (k : Int) ∧ xs.take k = ys.take k ∧ ∃ n, wr = w.drewN n) (fun i _ => xs.length - (intOf i).toNat)
    case atStart => exact ⟨0, Nat.zero_le _, rfl, rfl, 0, rfl⟩
    case round =>
      obtain ⟨k, hk, rfl, htk, n0, rfl⟩ := hrel
      have Htk := Lib.hid htk
      clear htk
      by_cases hlt : k < xs.length
      · have hlt' : (k : Int) < (xs.length : Int) := by omega
        have hlt2 : (k : Int) < (ys.length : Int) := by have := Hl.out; omega
        have hky : k < ys.length := by have := Hl.out; omega
        obtain ⟨b1, o1, hA1, hE1⟩ := H1.out.at k hlt
        obtain ⟨b2, o2, hA2, hE2⟩ := H2.out.at k hky
        subst hA1 hA2
        have hkz : (0 : Int) ≤ (k : Int) := by omega
        have Hst := Lib.hid (fun h => take_eqL (xs := xs) (ys := ys) k hlt hky Htk.out h)
        have Hbad := Lib.hid (fun h => ne_ofL (xs := xs) (ys := ys) k hlt hky h)
        generalize xs[k] = x at *
        generalize ys[k] = y at *
        obtain ⟨a, b, f, t⟩ := x
        obtain ⟨a2, b2', f2, t2⟩ := y
        obtain ⟨_, p0, p1, p2, p3⟩ := hE1
        obtain ⟨_, q0, q1, q2, q3⟩ := hE2
        dsimp only at p0 p1 p2 p3 q0 q1 q2 q3
        by_cases he : (⟨a, b, f, t⟩ : Ln) = ⟨a2, b2', f2, t2⟩
        · have Hs2 := Lib.hid (Hst.out he)
          injection he with e1 e2 e3 e4
          subst e1 e2 e3 e4
          clear Hst Hbad
          go_wp2_with fail
          go_quiet (fail)
          go_wp2_with fail
          go_roundw
          case rel => exact ⟨k + 1, by omega, by go_num, Hs2.out, _, rfl⟩
          case measure => simp [intOf]; omega
        · have Hb2 := Lib.hid (Hbad.out he)
          clear Hst Hbad
          by_cases h1 : a = a2
          · subst h1
            by_cases h2 : b = b2'
            · subst h2
              by_cases h3 : f = f2
              · subst h3
                have h4 : (t == t2) = false := beq_eq_false_iff_ne.2 fun h => he (by rw [h])
                go_wp2_with fail
                go_quiet (fail)
                go_wp2_with fail
                go_ret
                exact ⟨by rw [Hb2.out]; rfl, _, World.drewN_drewN _ _ _⟩
              · have h4 : (f == f2) = false := beq_eq_false_iff_ne.2 h3
                go_wp2_with fail
                go_quiet (fail)
                go_wp2_with fail
                go_ret
                exact ⟨by rw [Hb2.out]; rfl, _, World.drewN_drewN _ _ _⟩
            · have h4 : (b.toList == b2'.toList) = false := beq_eq_false_iff_ne.2 fun h => h2 (ba_inj h)
              go_wp2_with fail
              go_quiet (fail)
              go_wp2_with fail
              go_ret
              exact ⟨by rw [Hb2.out]; rfl, _, World.drewN_drewN _ _ _⟩
          · have h4 : (a.toList == a2.toList) = false := beq_eq_false_iff_ne.2 fun h => h1 (ba_inj h)
            go_wp2_with fail
            go_quiet (fail)
            go_wp2_with fail
            go_ret
            exact ⟨by rw [Hb2.out]; rfl, _, World.drewN_drewN _ _ _⟩
      · have hkk : k = xs.length := by omega
        subst hkk
        have hlt' : (xs.length : Int) ≤ (xs.length : Int) := Int.le_refl _
        have he : xs = ys := by
          have h := Htk.out
          have h3 := Hl.out
          rw [List.take_length, h3, List.take_length] at h
          exact h
        have He := Lib.hid (decide_eq_true he)
        clear he
        go_wp2_with fail
        go_ret
        exact ⟨by rw [He.out]; rfl, n0, rfl⟩
  · have hl' : ((xs.length : Int) == (ys.length : Int)) = false := by rw [beq_eq_false_iff_ne]; omega
    have hl2 : ((xs.length : Int) != (ys.length : Int)) = true := by simp [bne, hl']
    have He := Lib.hid (show decide (xs = ys) = false from decide_eq_false (fun h => hl (by rw [h])))
    clear hl
    go_enter Tryd.func23, Tryd.ntmps23
    go_wp2_with fail
    go_ret
    exact ⟨by rw [He.out]; rfl, 0, rfl⟩
end Go.Proofs.YtmheijnckmlbnaaDoor
/- Loans: DrawSameLoans, DrawAddLoan. -/
namespace Go.Proofs.YtmheijnckmlbnaaDoor
open Go.RowKit Go.Joins

theorem own_sl_of3 {w : World} {base n size : Nat} {e : TypeId} {v : Value} {cs : List Value} (h : w.ownsRow base e size v n cs) : ∃ A c, v = .slice A n c := by
  obtain ⟨_, A, c, hv, _⟩ := Rd.of_own h
  exact ⟨A, c, hv⟩
theorem own_cells0L {w : World} {base b n c sz : Nat} {e : TypeId} {cs : List Value} (h : w.ownsRow base e sz (.slice (some ⟨b, 0, none⟩) n c) n cs) : ∀ (i : Nat) (u : Value), cs[i]? = some u → w.cell? ⟨b, 0 + i, none⟩ = some u := fun i u hu => by
  have hc := h.cells (g := b) rfl i u hu
  have e0 : (⟨b, 0, none⟩ : Addr).add i = ⟨b, 0 + i, none⟩ := by unfold Addr.add; split <;> simp_all
  rwa [e0] at hc
structure DrN (W w : World) (B g k : Nat) (bs : List UInt8) (v : Value) (xs : List Ln) : Prop where
  dr : DrR W w B g k bs 26 4 v xs.length (xs.flatMap cellsL)
  len : xs.length ≤ 62
  sm : ∀ x ∈ xs, smX x
theorem DrM.n {W w : World} {B g k : Nat} {bs : List UInt8} {v : Value} {xs : List Ln} (h : DrM W w B g k bs v xs) : DrN W w B g k bs v xs := ⟨h.dr, h.len, h.sm⟩
theorem DrN.draw {W w w' : World} {B g k k' : Nat} {bs : List UInt8} {v : Value} {xs : List Ln} (h : DrN W w B g k bs v xs) (hs : SrcAt w' B g k' bs) (hg : w.grownBy w' (some g)) : DrN W w' B g k' bs v xs := ⟨h.dr.draw hs hg, h.len, h.sm⟩
theorem DrN.snocZ {W w w' : World} {B g k : Nat} {bs : List UInt8} {v v' : Value} {xs : List Ln} (h : DrN W w B g k bs v xs) (hr : w'.ownsRow W.heap.size 26 4 v' (xs.length + 1) (xs.flatMap cellsL ++ (#[Value.string ⟨#[]⟩, .string ⟨#[]⟩, .int .i64 0, .int .i64 0] : Array Value).toList)) (hg : w.grownBy w' v.ownBlock) :
    ∃ (zs : List Ln), zs.length = xs.length + 1 ∧ DrR W w' B g k bs 26 4 v' zs.length (zs.flatMap cellsL) := by
  have e : xs.flatMap cellsL ++ (#[Value.string ⟨#[]⟩, .string ⟨#[]⟩, .int .i64 0, .int .i64 0] : Array Value).toList = (xs ++ [noLn]).flatMap cellsL := by
    rw [List.flatMap_append]; simp [cellsL, noLn]
  rw [e] at hr
  have hlen : (xs ++ [noLn]).length = xs.length + 1 := by simp
  exact ⟨_, hlen, h.dr.app (by rw [hlen]; exact hr) hg⟩
def SameLr (w : World) (e : Ending) (w' : World) : Prop := ∃ (v1 v2 : Value) (l1 l2 : List Ln), e = .returned (.tuple #[v1, v2]) ∧ OwnL w' w.heap.size v1 l1 ∧ OwnL w' w.heap.size v2 l2 ∧ l1.length ≤ 70 ∧ l2.length ≤ 70 ∧ Below w.heap.size w w'
theorem SameLr.of2 {w w1 w2 w' : World} {B k k' : Nat} {bs : List UInt8} {v1 v2 : Value} {l1 l2 : List Ln} (ha : DrM w1 w2 B w.heap.size k bs v1 l1) (hb : DrR w2 w' B w.heap.size k' bs 26 4 v2 l2.length (l2.flatMap cellsL)) (h1 : Below w.heap.size w w1) (hL : l2.length ≤ 70) :
    SameLr w (.returned (.tuple #[v1, v2])) w' := by
  have hk := ha.dr.draw hb.src hb.gr
  exact ⟨v1, v2, l1, l2, rfl, ownsRow_le hk.row h1.size, ownsRow_le hb.row (Nat.le_trans h1.size ha.dr.gr.size), by have := ha.len; omega, hL, below_srcL h1 (grown_trans ha.dr.gr hb.gr) (Nat.le_refl _)⟩
theorem SameLr.of {w w1 w2 w' : World} {B k k' : Nat} {bs : List UInt8} {v1 v2 : Value} {l1 l2 : List Ln} (ha : DrM w1 w2 B w.heap.size k bs v1 l1) (hb : DrN w2 w' B w.heap.size k' bs v2 l2) (h1 : Below w.heap.size w w1) :
    SameLr w (.returned (.tuple #[v1, v2])) w' := SameLr.of2 ha hb.dr h1 (by have := hb.len; omega)

set_option maxRecDepth 100000 in
set_option maxHeartbeats 3200000 in
theorem drawSL_any (B : Nat) (cv : Value) (bs : List UInt8) (w : World) (h : Rd w B cv bs.length 1 (bs.map byV)) (hB : B ≤ w.heap.size) : Calls Tryd.prog 22 #[cv] w (SameLr w) := by
  have HF := Lib.hid (l00From_any B cv bs w h hB)
  obtain ⟨_, A, c, rfl, _⟩ := h
  go_enter Tryd.func22, Tryd.ntmps22
  go_wp2_with fail
  refine HF.out.mono ?_; rintro e w1 ⟨rfl, hs1, hb1, hl1⟩
  have Hs1 := Lib.hid hs1
  have Hb1 := Lib.hid hb1
  clear hs1 hb1 HF
  go_wp2_with fail
  refine (l23Draw_any B _ 0 bs _ Hs1.out (by omega)).mono ?_; rintro e w2 ⟨v2, xs, rfl, hd2, _⟩
  obtain ⟨b2, c2, rfl⟩ := hd2.nn
  have HA := Lib.hid hd2.toDrM
  have Hbd := Lib.hid hd2.bd
  have hll := hd2.len
  have Hsm := Lib.hid hd2.sm
  have Hc2 := Lib.hid (own_cells0L hd2.dr.row)
  have HM := Lib.hid (DrR.made hd2.dr.src 26 4)
  have Hlt2 := Lib.hid (hd2.dr.row.lt b2 rfl)
  have Hfl := Lib.hid (show (xs.flatMap cellsL).length = xs.length * 4 from flat_len cellsL 4 (fun _ => rfl) xs)
  clear hd2 Hs1
  have Hcc := Lib.hid (fun (i : Nat) (u : Value) (hu : (xs.flatMap cellsL)[i]? = some u) => (((Below.refl w2.heap.size w2).alloc (Nat.le_refl _) (.cells #[] 26)).cell (p := ⟨b2, 0 + i, none⟩) Hlt2.out.2).trans (Hc2.out i u hu))
  by_cases hl0 : xs.length = 0
  · have h00 : ¬ (0 : Int) < (xs.length : Int) := by omega
    have Hl0 := Lib.hid hl0; clear hl0
    go_wp2_with (at_builtin; refine wpList_apr 24 26 _ 4 48 Tryd.underlying24 infoL rfl (by omega) _ _ rfl rfl w2.heap.size _ 0 _ rfl HM.out.row b2 0 xs.length c2 (xs.flatMap cellsL) rfl Hfl.out Hcc.out (cellsL_one _) (by simp [maxLen]; omega) (by omega) HM.out.size ?_; intro v3 w3 hown3 hg3; rw [Nat.zero_add, List.nil_append] at hown3; have HD3 := Lib.hid (show DrN w2 w3 B w.heap.size _ bs v3 xs from ⟨HM.out.app hown3 hg3, hll, Hsm.out⟩); have Hown3 := Lib.hid hown3; obtain ⟨A3, c3, rfl⟩ := own_sl_of3 hown3; clear hown3 hg3 HM)
    clear Hown3
    go_wp2_with fail
    refine (one_any B _ _ bs 5 _ HD3.out.dr.src (by omega)).mono ?_; rintro e w8 ⟨y8, rfl, hs8, hg8⟩
    have HD8 := Lib.hid (DrN.draw HD3.out hs8 hg8)
    clear hs8 hg8 HD3
    cases y8 with
    | false =>
      go_wp2_with fail
      go_ret2
      have hfin := SameLr.of HA.out HD8.out Hb1.out
      exact hfin
    | true =>
      have hll8 := HD8.out.len
      have Hon := Lib.hid (ones4d ⟨#[]⟩ ⟨#[]⟩ 0 0)
      go_wp2_with (at_builtin; refine wpList_apd 24 26 _ 4 48 Tryd.underlying24 infoL rfl (by omega) _ _ rfl rfl w2.heap.size _ _ _ rfl HD8.out.dr.row #[.string ⟨#[]⟩, .string ⟨#[]⟩, .int .i64 0, .int .i64 0] 1 1 rfl rfl Hon.out (by simp [maxLen]; omega) (by omega) HD8.out.dr.size ?_; intro v9 w9 hown9 hg9; have HD9 := Lib.hid (HD8.out.snocZ hown9 hg9); obtain ⟨A9, c9, rfl⟩ := own_sl_of3 hown9; clear hown9 hg9)
      go_ret2
      obtain ⟨l9, hl9, hfin⟩ := HD9.out
      have hfin2 := SameLr.of2 HA.out hfin Hb1.out (by omega)
      exact hfin2
  · have h00 : (0 : Int) < (xs.length : Int) := by omega
    go_wp2_with (at_builtin; refine wpList_apr 24 26 _ 4 48 Tryd.underlying24 infoL rfl (by omega) _ _ rfl rfl w2.heap.size _ 0 _ rfl HM.out.row b2 0 xs.length c2 (xs.flatMap cellsL) rfl Hfl.out Hcc.out (cellsL_one _) (by simp [maxLen]; omega) (by omega) HM.out.size ?_; intro v3 w3 hown3 hg3; rw [Nat.zero_add, List.nil_append] at hown3; have HD3 := Lib.hid (show DrN w2 w3 B w.heap.size _ bs v3 xs from ⟨HM.out.app hown3 hg3, hll, Hsm.out⟩); have Hown3 := Lib.hid hown3; obtain ⟨A3, c3, rfl⟩ := own_sl_of3 hown3; clear hown3 hg3 HM)
    obtain ⟨b3, c3', hv, _⟩ := own_posC Hown3.out (by omega)
    injection hv with hv1 _ hv2
    subst hv1 hv2
    refine (one_any B _ _ bs 2 _ HD3.out.dr.src (by omega)).mono ?_; rintro e w4 ⟨y4, rfl, hs4, hg4⟩
    have HN3 := Lib.hid (show DrM w2 w3 B w.heap.size _ bs _ xs from ⟨HD3.out.dr, HD3.out.len, HD3.out.sm, ⟨b3, _, rfl⟩⟩)
    have HD4 := Lib.hid (DrM.draw HN3.out hs4 hg4)
    clear hs4 hg4 HD3 Hown3 HN3
    cases y4 with
    | false =>
      have HD4n := Lib.hid (DrM.n HD4.out); clear HD4
      go_wp2_with fail
      refine (one_any B _ _ bs 5 _ HD4n.out.dr.src (by omega)).mono ?_; rintro e w8 ⟨y8, rfl, hs8, hg8⟩
      have HD8 := Lib.hid (DrN.draw HD4n.out hs8 hg8)
      clear hs8 hg8 HD4n
      cases y8 with
      | false =>
        go_wp2_with fail
        go_ret2
        have hfin := SameLr.of HA.out HD8.out Hb1.out
        exact hfin
      | true =>
        have hll8 := HD8.out.len
        have Hon := Lib.hid (ones4d ⟨#[]⟩ ⟨#[]⟩ 0 0)
        go_wp2_with (at_builtin; refine wpList_apd 24 26 _ 4 48 Tryd.underlying24 infoL rfl (by omega) _ _ rfl rfl w2.heap.size _ _ _ rfl HD8.out.dr.row #[.string ⟨#[]⟩, .string ⟨#[]⟩, .int .i64 0, .int .i64 0] 1 1 rfl rfl Hon.out (by simp [maxLen]; omega) (by omega) HD8.out.dr.size ?_; intro v9 w9 hown9 hg9; have HD9 := Lib.hid (HD8.out.snocZ hown9 hg9); obtain ⟨A9, c9, rfl⟩ := own_sl_of3 hown9; clear hown9 hg9)
        go_ret2
        obtain ⟨l9, hl9, hfin⟩ := HD9.out
        have hfin2 := SameLr.of2 HA.out hfin Hb1.out (by omega)
        exact hfin2
    | true =>
      obtain ⟨_, _, _, p3, _, _, _, q3⟩ := HD4.out.cellsAt 0 (by omega)
      obtain ⟨ht0, ht1⟩ := Hbd.out xs[0] (List.getElem_mem (by omega))
      have Hput := Lib.hid (fun z k' w' (hs : SrcAt w' B w.heap.size k' bs) (hg : w4.grownBy w' (some w.heap.size)) => (DrM.draw HD4.out hs hg).putT 0 (by omega) z)
      have HP := Lib.hid (pick_any B w.heap.size _ bs 2 w4.drew (SrcAt.drew HD4.out.dr.src) (by omega))
      have hbg : b3 ≠ w.heap.size := by have := (HD4.out.dr.row.lt b3 rfl).1; have := HD4.out.dr.lt; omega
      have hblt := (HD4.out.dr.row.lt b3 rfl).2
      generalize xs[0].till = T at *
      rw [Nat.zero_mul, Nat.zero_add] at p3 q3
      go_wp2_with fail
      refine wp_region_noPanic ?_
      refine wp_region_L [9] (fun w' => w'.cell? ⟨b3, 3, none⟩ = some (.int .i64 T)) (by kernel_rfl) (p3) (fun hHeld => ?_)
      refine take_F (i := 0) (d := some 21) (v := ?_) (by kernel_rfl) (by kernel_rfl) rfl rfl (by kernel_rfl) (by kernel_rfl) (by kernel_rfl) (fun _ _ _ h => h) (Or.inl ⟨by rfl, ?_⟩) (by assumption) ?_
      rotate_left
      · (intro w hSw; (try dsimp only at hSw); go_simp; (try rw [if_neg (by omega)]); (try (with_reducible rfl)))
      simp only [Act.put, List.setIfInBounds_toArray, List.set_cons_zero, List.set_cons_succ]
      refine take_F (i := 1) (d := some 22) (v := ?_) (by kernel_rfl) (by kernel_rfl) rfl rfl (by kernel_rfl) (by kernel_rfl) (by kernel_rfl) (fun _ _ _ h => h) (Or.inl ⟨by rfl, ?_⟩) (by assumption) ?_
      rotate_left
      · (intro w hSw; (try dsimp only at hSw); go_simp; (try rw [if_neg (by omega)]); (try (with_reducible rfl)))
      simp only [Act.put, List.setIfInBounds_toArray, List.set_cons_zero, List.set_cons_succ]
      refine take_F (i := 2) (d := some 23) (v := ?_) (by kernel_rfl) (by kernel_rfl) rfl rfl (by kernel_rfl) (by kernel_rfl) (by kernel_rfl) (fun _ _ _ h => h) (Or.inl ⟨by rfl, ?_⟩) (by assumption) ?_
      rotate_left
      · (intro w hSw; (try dsimp only at hSw); go_simp; (try rw [if_neg (by omega)]); (try (with_reducible rfl)))
      simp only [Act.put, List.setIfInBounds_toArray, List.set_cons_zero, List.set_cons_succ]
      refine take_L [3] (i := 3) (d := some 24) (v := ?_) (by kernel_rfl) (by kernel_rfl) (by kernel_rfl) (by kernel_rfl) rfl rfl (by kernel_rfl) (by kernel_rfl) (by kernel_rfl) (fun _ _ _ h => h) (Or.inl ⟨by rfl, ?_⟩) (by assumption) ?_
      rotate_left
      · (intro w hSw; (try dsimp only at hSw); go_simp; (try rw [if_neg (by omega)]); (try (with_reducible rfl)))
      simp only [Act.put, List.setIfInBounds_toArray, List.set_cons_zero, List.set_cons_succ]
      refine take_F (i := 4) (d := some 25) (v := ?_) (by kernel_rfl) (by kernel_rfl) rfl rfl (by kernel_rfl) (by kernel_rfl) (by kernel_rfl) (fun _ _ _ h => h) (Or.inl ⟨by rfl, ?_⟩) (by assumption) ?_
      rotate_left
      · (intro w hSw; (try dsimp only at hSw); go_simp; (try rw [if_neg (by omega)]); (try (with_reducible rfl)))
      simp only [Act.put, List.setIfInBounds_toArray, List.set_cons_zero, List.set_cons_succ]
      refine call_L (i := 5) (d := (some 26)) rfl rfl (by kernel_rfl) (fun Kq hKq => ?_)
      go_simp
      go_at_call 66
      refine HP.out.mono ?_; rintro e w5 ⟨y, rfl, ⟨hy0, hy1, _⟩, hs5, hg5⟩
      have hy2 := hy1 (by omega)
      have q5 := (World.cell?_of_block (a := ⟨b3, 3, none⟩) (hg5.block b3 (by simpa using hblt) (fun e => hbg (by injection e)))).trans p3
      have f5 := (World.frozen?_of_block (a := ⟨b3, 3, none⟩) (hg5.block b3 (by simpa using hblt) (fun e => hbg (by injection e)))).trans q3
      obtain ⟨zs, hzl, hd6⟩ := Hput.out (T + y) _ _ hs5 (grown_undrew hg5)
      rw [Nat.zero_mul, Nat.zero_add] at hd6
      have HD6 := Lib.hid hd6
      have hwr : IntKind.i64.wrap (T + y) = T + y := IntWalk.i64_in _ (by omega)
      clear hs5 hg5 hy1 hzl hd6 p3 q3
      (try go_wp2_with fail)
      refine hKq.out _ _ (q5) (fun hHeld => ?_)
      clear hKq Kq
      (try simp only [Act.put, List.setIfInBounds_toArray, List.set_cons_zero, List.set_cons_succ])
      refine take_F (i := 6) (d := some 27) (v := ?_) (by kernel_rfl) (by kernel_rfl) rfl rfl (by kernel_rfl) (by kernel_rfl) (by kernel_rfl) (fun _ _ _ h => h) (Or.inl ⟨by rfl, ?_⟩) (by assumption) ?_
      rotate_left
      · (intro w hSw; (try dsimp only at hSw); go_simp; (try rw [if_neg (by omega)]); (try (with_reducible rfl)))
      simp only [Act.put, List.setIfInBounds_toArray, List.set_cons_zero, List.set_cons_succ]
      refine take_F (i := 7) (d := some 28) (v := ?_) (by kernel_rfl) (by kernel_rfl) rfl rfl (by kernel_rfl) (by kernel_rfl) (by kernel_rfl) (fun _ _ _ h => h) (Or.inl ⟨by rfl, ?_⟩) (by assumption) ?_
      rotate_left
      · (intro w hSw; (try dsimp only at hSw); go_simp; (try rw [if_neg (by omega)]); (try (with_reducible rfl)))
      simp only [Act.put, List.setIfInBounds_toArray, List.set_cons_zero, List.set_cons_succ]
      refine take_F (i := 8) (d := some 29) (v := ?_) (by kernel_rfl) (by kernel_rfl) rfl rfl (by kernel_rfl) (by kernel_rfl) (by kernel_rfl) (fun _ _ _ h => h) (Or.inl ⟨by rfl, ?_⟩) (by assumption) ?_
      rotate_left
      · (intro w hSw; (try dsimp only at hSw); go_simp; (try rw [if_neg (by omega)]); (try (with_reducible rfl)))
      simp only [Act.put, List.setIfInBounds_toArray, List.set_cons_zero, List.set_cons_succ]
      refine late_L (i := 9) (d := none) (by kernel_rfl) rfl rfl (by kernel_rfl) (fun Kq hKq => ?_)
      go_simp
      refine hKq.out _ _ ?_
      clear hKq Kq
      refine done_L (by kernel_rfl) ?_ _
      refine NoPanic.normal ?_
      clear q5 f5 HD4 HP Hput hwr
      have HD6n := Lib.hid (DrM.n HD6.out); clear HD6
      go_wp2_with fail
      refine (one_any B _ _ bs 5 _ HD6n.out.dr.src (by omega)).mono ?_; rintro e w8 ⟨y8, rfl, hs8, hg8⟩
      have HD8 := Lib.hid (DrN.draw HD6n.out hs8 hg8)
      clear hs8 hg8 HD6n
      cases y8 with
      | false =>
        go_wp2_with fail
        go_ret2
        have hfin := SameLr.of HA.out HD8.out Hb1.out
        exact hfin
      | true =>
        have hll8 := HD8.out.len
        have Hon := Lib.hid (ones4d ⟨#[]⟩ ⟨#[]⟩ 0 0)
        go_wp2_with (at_builtin; refine wpList_apd 24 26 _ 4 48 Tryd.underlying24 infoL rfl (by omega) _ _ rfl rfl w2.heap.size _ _ _ rfl HD8.out.dr.row #[.string ⟨#[]⟩, .string ⟨#[]⟩, .int .i64 0, .int .i64 0] 1 1 rfl rfl Hon.out (by simp [maxLen]; omega) (by omega) HD8.out.dr.size ?_; intro v9 w9 hown9 hg9; have HD9 := Lib.hid (HD8.out.snocZ hown9 hg9); obtain ⟨A9, c9, rfl⟩ := own_sl_of3 hown9; clear hown9 hg9)
        go_ret2
        obtain ⟨l9, hl9, hfin⟩ := HD9.out
        have hfin2 := SameLr.of2 HA.out hfin Hb1.out (by omega)
        exact hfin2
end Go.Proofs.YtmheijnckmlbnaaDoor
/- Loans: small contracts and bounds that the law FnLoans needs. -/
namespace Go.Proofs.YtmheijnckmlbnaaDoor
open Go.RowKit Go.Joins

theorem retR_sm {xs : List Ln} {s : ByteArray} {d : Int} (h : ∀ x ∈ xs, smX x) : ∀ x ∈ retR xs s d, smL x := by
  rcases ret_cases xs s d with ⟨_, _, _, g⟩ | ⟨_, _, _, _, g⟩ | ⟨i, hi, _, _, _, _, g⟩
  · rw [g]; intro x hx; cases hx
  · rw [g]; intro x hx; cases hx
  · rw [g]
    intro x hx
    rcases List.mem_or_eq_of_mem_set hx with hx | rfl
    · exact (h x hx).sm
    · have := h xs[i] (List.getElem_mem hi); exact this.sm
theorem addR_len (xs : List Ln) (x : Ln) : (addR xs x).length ≤ xs.length + 1 := by
  unfold addR
  split
  · rw [List.length_append, List.length_cons, List.length_take, List.length_drop]; omega
  · simp
theorem rdLoans_len (s : ByteArray) : ((rdLoans s).getD []).length ≤ 60 := by
  unfold rdLoans
  split
  · simp
  · split
    · split
      · rename_i h; exact (OkP.of h).len
      · simp
    · simp
theorem txL_sz {xs : List Ln} (hs : ∀ x ∈ xs, smX x) : (txL xs).size ≤ 1048576 := by
  unfold txL
  split
  · rename_i h
    have hP := OkP.of h
    have hl := hP.len
    have := textL_sz xs (fun x hx => by
      obtain ⟨i, hi, rfl⟩ := List.mem_iff_getElem.1 hx
      exact ⟨hP.one i hi, hs _ (List.getElem_mem hi)⟩)
    omega
  · exact Nat.zero_le _
/-- what the law asks behind a loan that was added -/
theorem add_law2 {xs : List Ln} {x : Ln} (h : addC xs x = 0) : (askLc (addR xs x) x.what x.from_ = 0 ∧ borS (addR xs x) x.what x.from_ = x.who) ∧ (askLc (addR xs x) x.what x.till = 0 ∧ borS (addR xs x) x.what x.till = x.who ∧ canR (addR xs x) x.what x.till = xs) ∧ 0 < (addR xs x).length := by
  obtain ⟨k, hk, he, _, hx, _⟩ := add_facts h
  have hd := loan_days' hx
  obtain ⟨h1, h2, _⟩ := add_law h x.from_ (by omega) (by omega)
  obtain ⟨h3, h4, h5⟩ := add_law h x.till (by omega) (by omega)
  exact ⟨⟨h1, h2⟩, ⟨h3, h4, h5⟩, by rw [he]; simp; omega⟩
end Go.Proofs.YtmheijnckmlbnaaDoor
