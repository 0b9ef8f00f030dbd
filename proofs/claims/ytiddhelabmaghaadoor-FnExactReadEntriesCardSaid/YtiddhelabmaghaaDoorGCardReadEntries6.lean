/- Merged texts: Re7, Re8. -/
import Derived.Test.YtiddhelabmaghaaDoorGCardReadEntries5
/- Catalogues' texts, read by the program: ReadEntries. -/
namespace Go.Proofs.YtiddhelabmaghaaDoor
open Go.RowKit Go.Joins

set_option maxRecDepth 100000 in
set_option maxHeartbeats 6400000 in
theorem ReadEntriesI_any (s : ByteArray) (w : World) (hs : s.size ≤ 1048576) (ht : Tab w) : Calls Tryd.prog 13 #[.string s] w (RetRe w (rdEnts s)) := by
  have HT := Lib.hid (textLines_any s w (by omega))
  have Ht := Lib.hid ht; clear ht
  cases hl : linesB 10 s with
  | none =>
    have Hr := Lib.hid (rdEnts_none hl)
    rw [hl] at HT
    clear hl
    go_enter Tryd.func13, Tryd.ntmps13
    go_wp2_with fail
    refine HT.out.mono ?_; rintro e w5 ⟨v5, rfl, _, hb5⟩
    have HB5 := Lib.hid hb5; clear hb5
    go_wp2_with fail
    go_ret2
    exact RetRe.none Hr.out HB5.out
  | some l =>
    have Hl := Lib.hid hl
    have hn6 := linesB_le hl
    have HM := Lib.hid (show ∀ z ∈ l, z.size ≤ 1048576 from fun z hz => Nat.le_trans (linesB_mem hl z hz) hs)
    rw [hl] at HT
    clear hl
    generalize hdl : l.length = n at *
    have Hdl := Lib.hid hdl; clear hdl
    go_enter Tryd.func13, Tryd.ntmps13
    go_wp2_with fail
    refine HT.out.mono ?_; rintro e w5 ⟨v5, rfl, ho5, hb5⟩
    obtain ⟨A5, c5, g5, rfl, hA5, hc5⟩ := own_strs0 (ho5 l rfl)
    rw [Hdl.out] at hA5 ⊢
    have HA5 := Lib.hid hA5
    have HC := Lib.hid hc5
    have HB5 := Lib.hid hb5
    have hb0 := Lib.hid ((Below.refl w5.heap.size w5).alloc (Nat.le_refl _) (.cells #[] 82))
    have ho0 := Lib.hid (show HasE (w5.alloc (.cells #[] 82)) w5.heap.size (.slice (some ⟨w5.heap.size, 0, none⟩) 0 0) [] from ⟨[], rfl, OwnE.nil (World.ownsRow_made (base := w5.heap.size) (e := 82) (size := 5) w5 #[] 0 (Nat.le_refl _) (by simp [maxLen]) rfl)⟩)
    clear ho5 hb5 HT hA5 hc5
    go_wp2_with fail
    go_loopw [6, 24] (fun o i wr => ∃ (k : Nat) (xs : List Ent), k ≤ n ∧ i = .int .i64 (k : Int) ∧ (l.take k).all okEn = true ∧ (l.take k).filterMap rdEn = xs ∧ xs.length = k ∧ HasE wr w5.heap.size o xs ∧ Below w5.heap.size w5 wr) (fun _ i _ => n - (intOf i).toNat)
    case atStart => exact ⟨0, [], Nat.zero_le _, rfl, rfl, rfl, rfl, ho0.out, hb0.out⟩
    case round =>
      obtain ⟨k, xs, hk, rfl, hall, hxs, hxk, hown, hbl⟩ := hrel
      have Hown := Lib.hid hown
      have Hbl := Lib.hid hbl
      have Hall := Lib.hid hall
      have Hxs := Lib.hid hxs
      have Hxk := Lib.hid hxk
      obtain ⟨cs0, hrow⟩ := hown.row
      rw [hxk] at hrow
      obtain ⟨A6, c6, rfl⟩ := sl_of_own hrow
      clear hown hall hxs hxk hrow
      by_cases hlt : k < n
      · have hlt' : (k : Int) < (n : Int) := by omega
        have hkl : k < l.length := by rw [Hdl.out]; exact hlt
        obtain ⟨rfl, hlt5⟩ := HA5.out (by omega)
        have hce := (hbl.cell (p := ⟨g5, k, none⟩) hlt5).trans (HC.out k hkl)
        have hline := HM.out _ (List.getElem_mem hkl)
        have HP := Lib.hid (parts_any l[k] wr (by omega))
        have Hbad := Lib.hid (fun h => rdEnts_bad Hl.out k hkl (okEn_none h))
        have Hgood := Lib.hid (fun x h => okEn_step (x := x) hkl Hall.out h)
        unfold RetPs at HP
        generalize l[k] = line at *
        have hplen := splitB_len 32 line.size line (Nat.le_refl _)
        clear hbl
        by_cases h4 : 4 ≤ (splitB 32 line).length
        · obtain ⟨a, b, c, d, ws, he⟩ := four_of h4
          have hmem := splitB_mem 32 line.size line (Nat.le_refl _)
          rw [he] at HP hmem hplen
          have ha : a.size ≤ 1073741824 := Nat.le_trans (hmem a (by simp)) (by omega)
          have hd : d.size ≤ 1073741824 := Nat.le_trans (hmem d (by simp)) (by omega)
          have HD1 := Lib.hid (fun wx hq => ReadDecimal_any a wx ha hq)
          have HD2 := Lib.hid (fun wx hq => ReadDecimal_any d wx hd hq)
          unfold RetN1 at HD1 HD2
          have Hfin := Lib.hid (rdEn_four he)
          generalize (readN a).getD 0 = f at *
          generalize (readN d).getD 0 = t at *
          generalize (readN a).isSome = o1 at *
          generalize (readN d).isSome = o2 at *
          clear he h4 hmem ha hd
          simp only [List.length_cons] at hplen
          obtain ⟨m, hm⟩ : ∃ m, (a :: b :: c :: d :: ws).length = m := ⟨_, rfl⟩
          have hm4 : m = ws.length + 4 := by rw [← hm]; simp
          have Hm := Lib.hid hm
          clear hm
          go_wp2_with fail
          refine HP.out.mono ?_; rintro e w6 ⟨v6, rfl, ho6, hb6⟩
          obtain ⟨g6, c6', rfl, hc6a, hc6b, hw6⟩ := own_wl ho6 (by simp)
          rw [Hm.out] at hc6a ⊢
          have W6 := Lib.hid hw6
          obtain ⟨q0, q1, q2, q3⟩ := hw6.four
          have Hb6 := Lib.hid (Hbl.out.trans (hb6.mono Hbl.out.size))
          have Ho6 := Lib.hid (Hown.out.below hb6)
          have hm4' : (4 : Int) ≤ (m : Int) := by omega
          have hm1' : (1 : Int) < (m : Int) := by omega
          have hm2' : (2 : Int) < (m : Int) := by omega
          have hm3' : (3 : Int) < (m : Int) := by omega
          have hmn4 : 4 ≤ m := by omega
          have hmmx : m ≤ 1048577 := by omega
          have HM4 := Lib.hid hm4; clear hm4
          clear ho6 hb6 HP Hown Hbl hce hw6
          unfold maxLen at hc6b
          have hm0 : (0 : Int) < (m : Int) := by omega
          go_wp2_with fail
          refine (HD1.out _ (Ht.out.below (HB5.out.trans (Hb6.out.mono HB5.out.size)))).mono ?_; rintro e w8 ⟨rfl, hb8⟩
          have Hb8 := Lib.hid (Hb6.out.trans (hb8.mono Hb6.out.size))
          have Ho8 := Lib.hid (Ho6.out.below hb8)
          have W8 := Lib.hid (W6.out.next hb8)
          obtain ⟨q0, q1, q2, q3⟩ := W8.out.four
          clear hb8 Hb6 Ho6 W6 HD1
          go_wp2_with fail
          refine (HD2.out _ (Ht.out.below (HB5.out.trans (Hb8.out.mono HB5.out.size)))).mono ?_; rintro e w9 ⟨rfl, hb9⟩
          have Hb9 := Lib.hid (Hb8.out.trans (hb9.mono Hb8.out.size))
          have Ho9 := Lib.hid (Ho8.out.below hb9)
          have W9 := Lib.hid (W8.out.next hb9)
          obtain ⟨q0, q1, q2, q3⟩ := W9.out.four
          clear hb9 Hb8 Ho8 W8 HD2
          cases hr : rdEn line with
          | none =>
            have Hr := Lib.hid (Hbad.out hr)
            have ho12 := Hfin.out.1
            rw [hr] at ho12
            clear hr Hbad Hgood Hfin
            cases o1 with
            | false =>
              clear ho12
              go_wp2_with fail
              go_ret2
              exact RetRe.none Hr.out (HB5.out.trans (Hb9.out.mono HB5.out.size))
            | true =>
              cases o2 with
              | true => cases ho12
              | false =>
                clear ho12
                go_wp2_with fail
                go_ret2
                exact RetRe.none Hr.out (HB5.out.trans (Hb9.out.mono HB5.out.size))
          | some y =>
            have ho12 := Hfin.out.1
            rw [hr] at ho12
            have hy := Hfin.out.2 y hr
            subst hy
            obtain ⟨hall2, hfl⟩ := Hgood.out _ hr
            rw [Hxs.out] at hfl
            have Hall2 := Lib.hid hall2
            have Hfl := Lib.hid hfl
            have hz9 := Hb9.out.size
            have Hmx := Lib.hid (show k + 1 ≤ maxLen by simp only [maxLen]; omega)
            have Hby := Lib.hid (show (k + 1) * 72 ≤ 140737488355328 by omega)
            have Hmw := Lib.hid (show 0 + (m - 4) ≤ maxLen by simp only [maxLen]; omega)
            have Hbw := Lib.hid (show (0 + (m - 4)) * 16 ≤ 140737488355328 by omega)
            have Hz1 := Lib.hid (show w9.heap.size ≤ (w9.alloc (.cells #[] 9)).drew.heap.size by simp)
            have Hmade := Lib.hid (World.ownsRow_made (base := w9.heap.size) (e := 9) (size := 1) w9 #[] 0 (Nat.le_refl _) (by simp [maxLen]) rfl)
            have Hwn := Lib.hid (show (ws.map Value.string).length = (m - 4) * 1 by rw [List.length_map]; have := HM4.out; omega)
            obtain ⟨o4, ho4⟩ : ∃ o4, o4 = if c6' = 4 then 0 else 4 := ⟨_, rfl⟩
            have Ho4 := Lib.hid ho4; clear ho4
            have Hws := Lib.hid (show ∀ (i : Nat) (u : Value), (ws.map Value.string)[i]? = some u → (w9.alloc (.cells #[] 9)).drew.cell? ⟨g6, o4 + i, none⟩ = some u from fun i u hu => by
              have h5 : o4 = 4 := by
                rw [Ho4.out, if_neg]
                intro e
                have := (List.getElem?_eq_some_iff.1 hu).1
                rw [List.length_map] at this
                have := HM4.out
                omega
              rw [h5]
              exact cell_alloc (w := w9.drew) (W9.out.rest i u hu) _)
            obtain ⟨cs9, hrow9⟩ := Ho9.out.row
            rw [Hxk.out] at hrow9
            have Hrow9 := Lib.hid hrow9
            clear hrow9
            have Hw1 := Lib.hid (strs_one ws)
            clear hr Hbad Hgood Hfin hall2 hfl
            cases o1 with
            | false => cases ho12
            | true =>
              cases o2 with
              | false => cases ho12
              | true =>
                clear ho12 q0 q3
                go_wp2_with fail
                refine wp_region_noPanic ?_
                refine wp_region_L [16,15] (fun w' => w'.cell? ⟨g6, 1, none⟩ = some (.string b) ∧ w'.cell? ⟨g6, 2, none⟩ = some (.string c)) (by kernel_rfl) (⟨q1, q2⟩) (fun hHeld => ?_)
                refine take_F (i := 0) (d := some 53) (v := ?_) (by kernel_rfl) (by kernel_rfl) rfl rfl (by kernel_rfl) (by kernel_rfl) (by kernel_rfl) (fun _ _ _ h => h) (Or.inl ⟨by rfl, ?_⟩) (by assumption) ?_
                rotate_left
                · (intro w hSw; (try dsimp only at hSw); go_simp; (try rw [if_neg (by omega)]); (try (with_reducible rfl)))
                simp only [Act.put, List.setIfInBounds_toArray, List.set_cons_zero, List.set_cons_succ]
                refine take_F (i := 1) (d := some 54) (v := ?_) (by kernel_rfl) (by kernel_rfl) rfl rfl (by kernel_rfl) (by kernel_rfl) (by kernel_rfl) (fun _ _ _ h => h) (Or.inl ⟨by rfl, ?_⟩) (by assumption) ?_
                rotate_left
                · (intro w hSw; (try dsimp only at hSw); go_simp; (try rw [if_neg (by omega)]); (try (with_reducible rfl)))
                simp only [Act.put, List.setIfInBounds_toArray, List.set_cons_zero, List.set_cons_succ]
                refine take_F (i := 2) (d := some 55) (v := ?_) (by kernel_rfl) (by kernel_rfl) rfl rfl (by kernel_rfl) (by kernel_rfl) (by kernel_rfl) (fun _ _ _ h => h) (Or.inl ⟨by rfl, ?_⟩) (by assumption) ?_
                rotate_left
                · (intro w hSw; (try dsimp only at hSw); go_simp; (try rw [if_neg (by omega)]); (try (with_reducible rfl)))
                simp only [Act.put, List.setIfInBounds_toArray, List.set_cons_zero, List.set_cons_succ]
                refine take_F (i := 3) (d := some 56) (v := ?_) (by kernel_rfl) (by kernel_rfl) rfl rfl (by kernel_rfl) (by kernel_rfl) (by kernel_rfl) (fun _ _ _ h => h) (Or.inl ⟨by rfl, ?_⟩) (by assumption) ?_
                rotate_left
                · (intro w hSw; (try dsimp only at hSw); go_simp; (try rw [if_neg (by omega)]); (try (with_reducible rfl)))
                simp only [Act.put, List.setIfInBounds_toArray, List.set_cons_zero, List.set_cons_succ]
                refine take_L [14,13,4] (i := 4) (d := some 57) (v := ?_) (by kernel_rfl) (by kernel_rfl) (by kernel_rfl) (by kernel_rfl) rfl rfl (by kernel_rfl) (by kernel_rfl) (by kernel_rfl) (fun _ _ _ h => h) (Or.inl ⟨by rfl, ?_⟩) (by assumption) ?_
                rotate_left
                · (intro w hSw; (try dsimp only at hSw); go_simp; (try rw [if_neg (by omega)]); (try (with_reducible rfl)))
                simp only [Act.put, List.setIfInBounds_toArray, List.set_cons_zero, List.set_cons_succ]
                refine take_F (i := 5) (d := some 58) (v := ?_) (by kernel_rfl) (by kernel_rfl) rfl rfl (by kernel_rfl) (by kernel_rfl) (by kernel_rfl) (fun _ _ _ h => h) (Or.inl ⟨by rfl, ?_⟩) (by assumption) ?_
                rotate_left
                · (intro w hSw; (try dsimp only at hSw); go_simp; (try rw [if_neg (by omega)]); (try (with_reducible rfl)))
                simp only [Act.put, List.setIfInBounds_toArray, List.set_cons_zero, List.set_cons_succ]
                refine take_F (i := 6) (d := some 59) (v := ?_) (by kernel_rfl) (by kernel_rfl) rfl rfl (by kernel_rfl) (by kernel_rfl) (by kernel_rfl) (fun _ _ _ h => h) (Or.inl ⟨by rfl, ?_⟩) (by assumption) ?_
                rotate_left
                · (intro w hSw; (try dsimp only at hSw); go_simp; (try rw [if_neg (by omega)]); (try (with_reducible rfl)))
                simp only [Act.put, List.setIfInBounds_toArray, List.set_cons_zero, List.set_cons_succ]
                refine take_L [14,13,7] (i := 7) (d := some 60) (v := ?_) (by kernel_rfl) (by kernel_rfl) (by kernel_rfl) (by kernel_rfl) rfl rfl (by kernel_rfl) (by kernel_rfl) (by kernel_rfl) (fun _ _ _ h => h) (Or.inl ⟨by rfl, ?_⟩) (by assumption) ?_
                rotate_left
                · (intro w hSw; (try dsimp only at hSw); go_simp; (try rw [if_neg (by omega)]); (try (with_reducible rfl)))
                simp only [Act.put, List.setIfInBounds_toArray, List.set_cons_zero, List.set_cons_succ]
                refine take_F (i := 8) (d := some 61) (v := ?_) (by kernel_rfl) (by kernel_rfl) rfl rfl (by kernel_rfl) (by kernel_rfl) (by kernel_rfl) (fun _ _ _ h => h) (Or.inl ⟨by rfl, ?_⟩) (by assumption) ?_
                rotate_left
                · (intro w hSw; (try dsimp only at hSw); go_simp; (try rw [if_neg (by omega)]); (try (with_reducible rfl)))
                simp only [Act.put, List.setIfInBounds_toArray, List.set_cons_zero, List.set_cons_succ]
                refine take_F (i := 10) (d := some 63) (v := ?_) (by kernel_rfl) (by kernel_rfl) rfl rfl (by kernel_rfl) (by kernel_rfl) (by kernel_rfl) (fun _ _ _ h => h) (Or.inl ⟨by rfl, ?_⟩) (by assumption) ?_
                rotate_left
                · (intro w hSw; (try dsimp only at hSw); go_simp; (try rw [if_neg (by omega)]); (try (with_reducible rfl)))
                simp only [Act.put, List.setIfInBounds_toArray, List.set_cons_zero, List.set_cons_succ]
                refine take_F (i := 11) (d := some 64) (v := .slice (some ⟨g6, o4, none⟩) (m - 4) (c6' - 4)) (by kernel_rfl) (by kernel_rfl) rfl rfl (by kernel_rfl) (by kernel_rfl) (by kernel_rfl) (fun _ _ _ h => h) (Or.inl ⟨by rfl, ?_⟩) (by assumption) ?_
                · (intro w hSw; (try dsimp only at hSw); go_simp; rw [Ho4.out]; split <;> rfl)
                simp only [Act.put, List.setIfInBounds_toArray, List.set_cons_zero, List.set_cons_succ]
                refine call_L (i := 9) (d := (some 62)) rfl rfl (by kernel_rfl) (fun Kq hKq => ?_)
                go_simp
                refine hKq.out _ _ (⟨cell_alloc (w := w9.drew) q1 _, cell_alloc (w := w9.drew) q2 _⟩) (fun hHeld => ?_)
                clear hKq Kq
                (try simp only [Act.put, List.setIfInBounds_toArray, List.set_cons_zero, List.set_cons_succ])
                refine call_L (i := 12) (d := (some 65)) rfl rfl (by kernel_rfl) (fun Kq hKq => ?_)
                refine step_apr 37 9 _ 1 16 Tryd.underlying37 infoStr rfl (by omega) _ _ (by rfl) (by rfl) w9.heap.size _ 0 [] (by rfl) Hmade.out.drew g6 o4 (m - 4) (c6' - 4) (ws.map Value.string) (by rfl) Hwn.out Hws.out Hw1.out Hmw.out Hbw.out Hz1.out ?_; intro u10 w10 hu10 hg10
                obtain ⟨hu, hbx⟩ := inner_own hu10 (grown_undrew hg10)
                obtain ⟨Au, cu, rfl⟩ := sl_of_own hu
                obtain ⟨_, q1', q2', _⟩ := (W9.out.next hbx).four
                have Hu := Lib.hid hu
                have Hbx := Lib.hid hbx
                have Hrow10 := Lib.hid (own_below Hrow9.out hbx)
                have hz10 := Nat.le_trans hz9 hbx.size
                have Hon := Lib.hid (ones5 f t b c Au (m - 4) cu)
                clear hu hbx hu10 hg10
                refine hKq.out _ _ (⟨q1', q2'⟩) (fun hHeld => ?_)
                clear hKq Kq
                simp only [Act.put, List.setIfInBounds_toArray]
                refine take_F (i := 13) (d := some 66) (v := ?_) (by kernel_rfl) (by kernel_rfl) rfl rfl (by kernel_rfl) (by kernel_rfl) (by kernel_rfl) (fun _ _ _ h => h) (Or.inl ⟨by rfl, ?_⟩) (by assumption) ?_
                rotate_left
                · (intro w hSw; (try dsimp only at hSw); go_simp; (try rw [if_neg (by omega)]); (try (with_reducible rfl)))
                simp only [Act.put]
                refine call_L (i := 14) (d := (some 67)) rfl rfl (by kernel_rfl) (fun Kq hKq => ?_)
                go_simp
                refine hKq.out _ _ (⟨cell_alloc q1' _, cell_alloc q2' _⟩) (fun hHeld => ?_)
                clear hKq Kq
                (try simp only [Act.put, List.setIfInBounds_toArray, List.set_cons_zero, List.set_cons_succ])
                refine late_L (i := 15) (d := (some 68)) (by kernel_rfl) rfl rfl (by kernel_rfl) (fun Kq hKq => ?_)
                refine step_apd0 28 82 _ 5 72 Tryd.underlying28 infoE rfl (by omega) _ _ (by rfl) (by rfl) w5.heap.size _ k _ (by rfl) Hrow10.out #[.int .i64 f, .string b, .string c, .int .i64 t, .slice Au (m - 4) cu] 1 1 (by rfl) (by rfl) Hon.out Hmx.out Hby.out hz10 ?_; intro v11 w11 hr11 hg11
                have Hb11 := Lib.hid (below_apd (Hb9.out.trans (Hbx.out.mono hz9)) Hrow10.out hg11 (Nat.le_refl _) hz10)
                have Hfin := Lib.hid (HasE.snoc (x := ⟨f, b, c, t, ws⟩) (u := .slice Au (m - 4) cu) (v' := v11) (w2 := w11) Ho9.out hz9 Hbx.out (by have := Hu.out; have e := HM4.out; rw [show m - 4 = ws.length by omega] at this ⊢; exact this) ⟨cs9, by rw [Hxk.out]; exact Hrow10.out, by rw [Hxk.out]; exact hr11, hg11⟩)
                clear hr11 hg11
                refine hKq.out _ _ ?_
                clear hKq Kq
                simp only [Act.put, List.setIfInBounds_toArray]
                refine late_L (i := 16) (d := (some 6)) (by kernel_rfl) rfl rfl (by kernel_rfl) (fun Kq hKq => ?_)
                go_simp
                refine hKq.out _ _ ?_
                clear hKq Kq
                refine done_L (by kernel_rfl) ?_ _
                refine NoPanic.normal ?_
                (try go_wp2_with fail)
                go_roundw
                case rel => exact ⟨k + 1, _, by omega, by go_num, Hall2.out, Hfl.out, by rw [List.length_append, Hxk.out]; rfl, Hfin.out, Hb11.out⟩
                case measure => simp [intOf]; omega
        · have hnq : ((splitB 32 line).length : Int) < 4 := by omega
          have Hr := Lib.hid (Hbad.out (rdEn_few (by omega)))
          clear Hbad Hgood
          go_wp2_with fail
          refine HP.out.mono ?_; rintro e w6 ⟨v6, rfl, ho6, hb6⟩
          obtain ⟨A6', c6', rfl⟩ := sl_of_own ho6
          have Hb6 := Lib.hid (Hbl.out.trans (hb6.mono Hbl.out.size))
          generalize (splitB 32 line).length = m at *
          clear ho6 hb6 HP Hown Hbl hce
          go_wp2_with fail
          go_ret2
          exact RetRe.none Hr.out (HB5.out.trans (Hb6.out.mono HB5.out.size))
      · have hkn : k = n := by omega
        subst hkn
        have hlt' : ¬ (k : Int) < (k : Int) := by omega
        have htk : l.take k = l := List.take_of_length_le (by rw [Hdl.out]; exact Nat.le_refl _)
        have hal := Hall.out
        have hxe := Hxs.out
        rw [htk] at hal hxe
        have hr := rdEnts_at Hl.out hal
        have Htx := Lib.hid (fun h => txE_of Hl.out hal h)
        have hsm := filterE_sm (l := l) (Nat.le_refl _) HM.out
        rw [hxe] at hr hsm Htx
        have HK := Lib.hid (ValidI_any wr.heap.size _ xs wr Hown.out.rd (Nat.le_refl _) (by rw [Hxk.out]; omega) hsm)
        have HX := Lib.hid (fun wx (hx : RdE wx wx.heap.size (.slice A6 k c6) xs) hq => EntriesTextI_any wx.heap.size _ xs wx hx (Nat.le_refl _) (by rw [Hxk.out]; omega) hsm hq)
        have Hbl2 := Lib.hid hbl
        clear hal htk hxe hsm Hall Hxs hbl
        cases hok : entsOk xs with
        | true =>
          have Hr := Lib.hid (hr.trans (if_pos hok))
          have htx := Htx.out hok
          rw [htx] at HX
          rw [hok] at HK
          clear hok hr htx Htx
          go_wp2_with fail
          refine HK.out.mono ?_; rintro e w9 ⟨rfl, hb9⟩
          have Hb9 := Lib.hid (Hbl.out.trans (hb9.mono Hbl.out.size))
          have HO9 := Lib.hid (Hown.out.below hb9)
          clear hb9
          go_wp2_with fail
          refine (HX.out _ HO9.out.rd (Ht.out.below (HB5.out.trans (Hb9.out.mono HB5.out.size)))).mono ?_; rintro e w10 ⟨rfl, hb10⟩
          have Hb10 := Lib.hid (Hb9.out.trans (hb10.mono Hb9.out.size))
          have HO10 := Lib.hid (HO9.out.below hb10)
          clear hb10
          go_wp2_with fail
          go_ret2
          exact RetRe.some Hr.out (HO10.out.le HB5.out.size) (HB5.out.trans (Hb10.out.mono HB5.out.size))
        | false =>
          have Hr := Lib.hid (hr.trans (if_neg (by rw [hok]; simp)))
          rw [hok] at HK
          clear hok hr Htx HX
          go_wp2_with fail
          refine HK.out.mono ?_; rintro e w9 ⟨rfl, hb9⟩
          have Hb9 := Lib.hid (Hbl.out.trans (hb9.mono Hbl.out.size))
          clear hb9
          go_wp2_with fail
          go_ret2
          exact RetRe.none Hr.out (HB5.out.trans (Hb9.out.mono HB5.out.size))
end Go.Proofs.YtiddhelabmaghaaDoor
/- The law FnExactReadEntries: the walk. -/
namespace Go.Proofs.YtiddhelabmaghaaDoor
open Go.RowKit Go.Joins

/-- what stays true of the reference's entries on the way -/
structure StE (W : World) (s3 : Nat) (v1 : Value) (L : List Ent) (w : World) : Prop where
  acc : Below W.heap.size W w
  z0 : W.heap.size ≤ s3
  z3 : s3 ≤ w.heap.size
  R : RdE w s3 v1 L
theorem StE.next {W w w' : World} {s3 : Nat} {v1 : Value} {L : List Ent} (h : StE W s3 v1 L w) (hb : Below w.heap.size w w') : StE W s3 v1 L w' :=
  ⟨h.acc.trans (hb.mono h.acc.size), h.z0, Nat.le_trans h.z3 hb.size, h.R.below (hb.mono h.z3)⟩
theorem StE.low {W w w' : World} {s3 : Nat} {v1 : Value} {L : List Ent} (h : StE W s3 v1 L w) (hb : Below s3 w w') : StE W s3 v1 L w' :=
  ⟨h.acc.trans (hb.mono h.z0), h.z0, Nat.le_trans h.z3 hb.size, h.R.below hb⟩
theorem sumN_bd {f : Nat → Nat} {B : Nat} (h : ∀ i, f i ≤ B) (n : Nat) : sumN f n ≤ n * B := by
  induction n with
  | zero => exact Nat.zero_le _
  | succ n ih => have := h n; rw [show sumN f (n + 1) = sumN f n + f n from rfl, Nat.succ_mul]; omega
theorem HasE.marks {w : World} {base : Nat} {v : Value} {xs : List Ent} (h : HasE w base v xs) (hsm : ∀ x ∈ xs, smE x) :
    ∃ (ys : List (Ent × Value)) (f : Nat → Nat), OwnE w base v ys ∧ ys.length = xs.length ∧ (∀ i (hi : i < ys.length), ys[i].1.words.length = f i) ∧ ∀ i, f i ≤ 1048576 := by
  obtain ⟨ys, h1, h2⟩ := h
  refine ⟨ys, fun i => if hi : i < ys.length then ys[i].1.words.length else 0, h2, by rw [← h1, List.length_map], fun i hi => by simp [hi], fun i => ?_⟩
  dsimp only
  split
  · rename_i hi
    exact (hsm _ (h1 ▸ List.mem_map_of_mem (List.getElem_mem hi))).2.2.1
  · exact Nat.zero_le _

set_option maxRecDepth 100000 in
set_option maxHeartbeats 3200000 in
theorem walkFnExactReadEntries (s : ByteArray) (hs : s.size ≤ maxLen) (W : World) (ht : Tab W) :
    Calls Tryd.prog 4 #[.string s] W fun e W' => e = .returned (.bool true) ∧ Below W.heap.size W W' := by
  have hb0 := Below.refl W.heap.size W
  have Ht := Lib.hid ht; clear ht
  unfold maxLen at hs
  by_cases hbig : 1048576 < s.size
  · have hbig' : (1048576 : Int) < (s.size : Int) := by omega
    go_enter Tryd.func4, Tryd.ntmps4
    go_wp2_with fail
    go_ret
    exact ⟨rfl, hb0⟩
  · have hbig' : ¬ (1048576 : Int) < (s.size : Int) := by omega
    have HCS := Lib.hid (fun wx => ReadEntriesS_any s wx (by omega))
    have HCI := Lib.hid (fun wx hq => ReadEntriesI_any s wx (by omega) hq)
    unfold RetRe at HCS HCI
    obtain ⟨hlen, hsm⟩ := rdEnts_facts s (by omega)
    generalize (rdEnts s).getD [] = L at *
    generalize (rdEnts s).isSome = O at *
    have Hsm := Lib.hid hsm
    have Hw := Lib.hid (show ∀ x ∈ L, x.words.length ≤ 1048576 from fun x hx => (hsm x hx).2.2.1)
    have hn : L.length ≤ 1048576 := by omega
    clear hsm
    go_enter Tryd.func4, Tryd.ntmps4
    go_wp2_with fail
    refine (HCS.out W).mono ?_; rintro e w3 ⟨v1, rfl, ho3, hb3⟩
    have S3 := Lib.hid (show StE W w3.heap.size v1 L w3 from ⟨hb3, hb3.size, Nat.le_refl _, ho3.rd⟩)
    clear ho3 hb3 HCS hb0
    go_wp2_with fail
    refine (HCI.out w3 (Ht.out.below S3.out.acc)).mono ?_; rintro e w5 ⟨g0, rfl, ho5, hb5⟩
    have S5 := Lib.hid (S3.out.next hb5)
    have G5 := Lib.hid ho5
    have HE := Lib.hid (eqEntryS_same _ _ g0 v1 L w5 ho5.rd S5.out.R (Nat.le_refl _) S5.out.z3 hn Hw.out)
    clear S3 ho5 hb5
    go_wp2_with fail
    refine HE.out.mono ?_; rintro e w6 ⟨rfl, hb6⟩
    have S9 := Lib.hid (S5.out.next hb6)
    obtain ⟨ys, f, hO, hyn, hyf, hfb⟩ := (G5.out.below hb6).marks Hsm.out
    have Hfb := Lib.hid (sumN_bd hfb L.length)
    have hE : eE 1 f L.length ≤ 4611686018427387904 := by have := Hfb.out; unfold eE; omega
    have hE1 := eE_ge 1 f L.length
    have HM := Lib.hid (markEs_any w3.heap.size g0 1 ys f L.length w6 hO hyn hyf S9.out.z3 (by omega) hE)
    have HH := Lib.hid (fun wx (hx : RdE wx wx.heap.size g0 (marksE 1 f L.length)) => heldEs_any wx.heap.size g0 1 f L.length wx hx (Nat.le_refl _) (by omega) hE)
    clear S5 G5 HE hb6 hO hyn hyf hfb Hfb hE
    have hE0 : ¬ eE 1 f L.length < 0 := by omega
    generalize eE 1 f L.length = E at *
    go_wp2_with fail
    refine HM.out.mono ?_; rintro e w11 ⟨rfl, ho11, hb11⟩
    have S11 := Lib.hid (S9.out.low hb11)
    have G11 := Lib.hid ho11
    clear S9 hb11 ho11 HM
    go_wp2_with fail
    refine (HH.out w11 G11.out.rd).mono ?_; rintro e w12 ⟨rfl, hb12⟩
    have S13 := Lib.hid (S11.out.next hb12)
    have G13 := Lib.hid (G11.out.below hb12)
    clear S11 G11 hb12
    go_wp2_with fail
    refine (HCI.out w12 (Ht.out.below S13.out.acc)).mono ?_; rintro e w14 ⟨v14, rfl, ho14, hb14⟩
    have S14 := Lib.hid (S13.out.next hb14)
    have G14 := Lib.hid (G13.out.below hb14)
    have HE := Lib.hid (eqEntryS_same _ _ v14 v1 L w14 ho14.rd S14.out.R (Nat.le_refl _) S14.out.z3 hn Hw.out)
    clear S13 G13 ho14 hb14
    go_wp2_with fail
    refine HE.out.mono ?_; rintro e w15 ⟨rfl, hb15⟩
    have S15 := Lib.hid (S14.out.next hb15)
    have G15 := Lib.hid (G14.out.below hb15)
    clear S14 G14 HE hb15
    go_wp2_with fail
    refine (HH.out w15 G15.out.rd).mono ?_; rintro e w16 ⟨rfl, hb16⟩
    have S16 := Lib.hid (S15.out.next hb16)
    clear S15 G15 HH hb16
    go_wp2_with fail
    go_ret
    exact ⟨rfl, S16.out.acc⟩
end Go.Proofs.YtiddhelabmaghaaDoor
