/- Merged texts: Pc29, Pc30, Pc31, Pc32, Pc33, Pq9, Pq10. -/
import Derived.Test.YtepgfcjfdnakbaaDoorGCardPieces5
import Derived.Test.YtepgfcjfdnakbaaDoorGCardPieces3
import Derived.Test.YtepgfcjfdnakbaaDoorGCardPieces6
import Derived.Test.YtepgfcjfdnakbaaDoorGCardPieces1
/- Inventories, part 29: l21Draw (gen_pc29.py). -/
namespace Go.Proofs.YtepgfcjfdnakbaaDoor
open Go.RowKit Go.Joins

theorem goodEq {zs ys : List Pc} (h : zs = ys) (hg : GoodP ys) : GoodP zs := by rw [h]; exact hg
set_option maxRecDepth 100000 in
set_option maxHeartbeats 3200000 in
theorem l21Draw_any (B g k : Nat) (bs : List UInt8) (w : World) (hs : SrcAt w B g k bs) (hk : k + 200 ≤ 4611686018427380000) :
    Calls Tryd.prog 66 #[.pointer (some ⟨g, 0, none⟩)] w (RetDd w B g (k + 82) bs) := by
  have hlt := hs.lt
  have hb0 := (Below.refl w.heap.size w).alloc (Nat.le_refl _) (.cells (pcL.map Value.string).toArray 9)
  have Hg0 := Lib.hid (grown_of_below hb0 (some g))
  have HD0 := Lib.hid (show DrC (w.alloc (.cells (pcL.map Value.string).toArray 9)) ((w.alloc (.cells (pcL.map Value.string).toArray 9)).alloc (.cells #[] 46)) B g k bs (.slice (some ⟨w.heap.size + 1, 0, none⟩) 0 0) [] from by
    have e : w.heap.size + 1 = (w.alloc (.cells (pcL.map Value.string).toArray 9)).heap.size := by simp
    rw [e]
    exact ⟨DrR.made (hs.below hb0) _ _, by simp, fun x hx => (by cases hx), _, _, rfl⟩)
  have HNm := Lib.hid (fun i hi => alloc_strs w pcL 9 i hi)
  have Hlt := Lib.hid (show w.heap.size < (w.alloc (.cells (pcL.map Value.string).toArray 9)).heap.size by simp)
  have hng : w.heap.size ≠ g := by omega
  clear hs hb0
  go_enter Tryd.func66, Tryd.ntmps66
  go_wp2_with fail
  refine (pick_any B g k bs 10 _ HD0.out.dr.src (by omega)).mono ?_; rintro e w1 ⟨x, rfl, ⟨hx0, hx1, _⟩, hs1, hg1⟩
  have HD1 := Lib.hid (HD0.out.draw hs1 hg1)
  have hx9 := hx1 (by omega)
  obtain ⟨c, hc⟩ : ∃ c : Nat, 1 + x = (c : Int) := ⟨(1 + x).toNat, by omega⟩
  have hc10 : c ≤ 10 := by omega
  have hc1 : 1 ≤ c := by omega
  clear hs1 hg1 hx1 HD0
  obtain ⟨W1, hW1⟩ : ∃ z, w.alloc (.cells (pcL.map Value.string).toArray 9) = z := ⟨_, rfl⟩
  rw [hW1] at HD1 Hlt Hg0 HNm
  clear hW1
  go_wp2_with fail
  (try rw [hc])
  clear hc hx0 hx9
  go_loopw [4, 5] (fun o i wr => ∃ (j : Nat) (xs : List Pc), j + xs.length = c ∧ i = .int .i64 (j : Int) ∧ GoodP xs ∧ DrC W1 wr B g (k + 2 + 8 * xs.length) bs o xs) (fun _ i _ => (intOf i).toNat)
  case atStart => exact ⟨c, [], by simp, rfl, GoodP.nil, HD1.out⟩
  case round =>
    obtain ⟨j, xs, hjc, rfl, hgd, hd⟩ := hrel
    obtain ⟨b0, c0, rfl⟩ := hd.nn
    have Hgd := Lib.hid hgd
    clear hgd
    have HD := Lib.hid hd
    have Hjc := Lib.hid hjc
    have hxl : xs.length ≤ 10 := by omega
    clear HD1
    by_cases hj : 0 < j
    · have hj' : (0 : Int) < (j : Int) := by omega
      have hjj : (j : Int) - 1 = ((j - 1 : Nat) : Int) := by omega
      have Hjj := Lib.hid hjj
      have hj10 : (j : Int) ≤ 10 := by omega
      have hx10 : xs.length < 10 := by omega
      have hx10' : (xs.length : Int) < 10 := by omega
      have hz16 := pcL_sz (pcL[xs.length]'(by show xs.length < 10; omega)) (List.getElem_mem _)
      have HNx := Lib.hid (fun wy (hg : W1.grownBy wy (some g)) => (World.cell?_of_block (a := ⟨w.heap.size, xs.length, none⟩) (hg.block w.heap.size Hlt.out (fun e => hng (by injection e)))).trans (HNm.out xs.length (by show xs.length < 10; omega)))
      generalize (pcL[xs.length]'(by show xs.length < 10; omega)) = z at *
      have hn := HNx.out wr.drew hd.drew.dr.gr
      have HDd := Lib.hid hd.drew
      clear hd hjc hjj
      go_upto_region 7 with (fail)
      go_cut [7] (fun s7 wx => ∃ (q : Nat) (y2 y3 : Int), s7 = .pointer (some ⟨q, 0, none⟩) ∧ (1 ≤ y2 ∧ y2 ≤ 4) ∧ (0 ≤ y3 ∧ y3 ≤ 20) ∧ PcQ W1 wx B g (k + 2 + 8 * xs.length + 4) bs (.slice (some ⟨b0, 0, none⟩) xs.length c0) xs q (.string z) (.int .i64 (-1)) (.int .i64 y2) (.int .i64 y3))
      case first =>
        refine wp_region_noPanic ?_
        refine wp_region_L [] (fun w' => w'.cell? ⟨w.heap.size, xs.length, none⟩ = some (.string z)) (by kernel_rfl) (hn) (fun hHeld => ?_)
        refine take_F (i := 0) (d := some 21) (v := ?_) (by kernel_rfl) (by kernel_rfl) rfl rfl (by kernel_rfl) (by kernel_rfl) (by kernel_rfl) (fun _ _ _ h => h) (Or.inl ⟨by rfl, ?_⟩) (by assumption) ?_
        rotate_left
        · (intro w hSw; (try dsimp only at hSw); go_simp; (try rw [if_neg (by omega)]); (try (with_reducible rfl)))
        simp only [Act.put, List.setIfInBounds_toArray, List.set_cons_zero, List.set_cons_succ]
        refine take_F (i := 1) (d := some 22) (v := ?_) (by kernel_rfl) (by kernel_rfl) rfl rfl (by kernel_rfl) (by kernel_rfl) (by kernel_rfl) (fun _ _ _ h => h) (Or.inl ⟨by rfl, ?_⟩) (by assumption) ?_
        rotate_left
        · (intro w hSw; (try dsimp only at hSw); go_simp; (try rw [if_neg (by omega)]); (try (with_reducible rfl)))
        simp only [Act.put, List.setIfInBounds_toArray, List.set_cons_zero, List.set_cons_succ]
        refine take_F (i := 2) (d := some 23) (v := ?_) (by kernel_rfl) (by kernel_rfl) rfl rfl (by kernel_rfl) (by kernel_rfl) (by kernel_rfl) (fun _ _ _ h => h) (Or.inl ⟨by rfl, ?_⟩) (by assumption) ?_
        rotate_left
        · (intro w hSw; (try dsimp only at hSw); go_simp; (try rw [if_neg (by omega)]); (try (with_reducible rfl)))
        simp only [Act.put, List.setIfInBounds_toArray, List.set_cons_zero, List.set_cons_succ]
        refine take_L [3] (i := 3) (d := some 24) (v := ?_) (by kernel_rfl) (by kernel_rfl) (by kernel_rfl) (by kernel_rfl) rfl rfl (by kernel_rfl) (by kernel_rfl) (by kernel_rfl) (fun _ _ _ h => h) (Or.inl ⟨by rfl, ?_⟩) (by assumption) ?_
        rotate_left
        · (intro w hSw; (try dsimp only at hSw); go_simp; (try rw [if_neg (by omega)]); (try (with_reducible rfl)))
        simp only [Act.put, List.setIfInBounds_toArray, List.set_cons_zero, List.set_cons_succ]
        refine take_F (i := 4) (d := some 25) (v := ?_) (by kernel_rfl) (by kernel_rfl) rfl rfl (by kernel_rfl) (by kernel_rfl) (by kernel_rfl) (fun _ _ _ h => h) (Or.inl ⟨by rfl, ?_⟩) (by assumption) ?_
        rotate_left
        · (intro w hSw; (try dsimp only at hSw); go_simp; (try rw [if_neg (by omega)]); (try (with_reducible rfl)))
        simp only [Act.put, List.setIfInBounds_toArray, List.set_cons_zero, List.set_cons_succ]
        refine take_F (i := 7) (d := some 28) (v := ?_) (by kernel_rfl) (by kernel_rfl) rfl rfl (by kernel_rfl) (by kernel_rfl) (by kernel_rfl) (fun _ _ _ h => h) (Or.inl ⟨by rfl, ?_⟩) (by assumption) ?_
        rotate_left
        · (intro w hSw; (try dsimp only at hSw); go_simp; (try rw [if_neg (by omega)]); (try (with_reducible rfl)))
        simp only [Act.put, List.setIfInBounds_toArray, List.set_cons_zero, List.set_cons_succ]
        refine both_L (i := 5) (j := 10) (di := (some 26)) (dj := (some 7)) rfl rfl rfl rfl (by kernel_rfl) (fun Kq hKq => ?_) (fun Kq hKq => ?_)
        · go_simp
          go_at_call 70
          refine (pick_any B g _ bs 4 _ HDd.out.dr.src (by omega)).mono ?_; rintro e wz11 ⟨xa, rfl, ⟨hxa0, hxa1, _⟩, hs11, hg11⟩
          have hxa2 := hxa1 (by omega)
          have HA1 := Lib.hid (HDd.out.draw hs11 hg11)
          have hn11 := HNx.out wz11 HA1.out.dr.gr
          have hwz11 : IntKind.i64.wrap (1 + xa) = 1 + xa := IntWalk.i64_in _ (by omega)
          clear hs11 hg11 hxa1
          (try go_wp2_with fail)
          refine hKq.out _ _ (hn11) (fun hHeld => ?_)
          clear hKq Kq
          (try simp only [Act.put, List.setIfInBounds_toArray, List.set_cons_zero, List.set_cons_succ])
          refine take_F (i := 6) (d := some 27) (v := ?_) (by kernel_rfl) (by kernel_rfl) rfl rfl (by kernel_rfl) (by kernel_rfl) (by kernel_rfl) (fun _ _ _ h => h) (Or.inl ⟨by rfl, ?_⟩) (by assumption) ?_
          rotate_left
          · (intro w hSw; (try dsimp only at hSw); go_simp; (try rw [if_neg (by omega)]); (try (with_reducible rfl)))
          simp only [Act.put, List.setIfInBounds_toArray, List.set_cons_zero, List.set_cons_succ]
          refine both_L (i := 8) (j := 10) (di := (some 29)) (dj := (some 7)) rfl rfl rfl rfl (by kernel_rfl) (fun Kq hKq => ?_) (fun Kq hKq => ?_)
          · go_simp
            go_at_call 70
            refine (pick_any B g _ bs 20 _ HA1.out.dr.src (by omega)).mono ?_; rintro e wz12 ⟨ya, rfl, ⟨hya0, hya1, _⟩, hs12, hg12⟩
            have hya2 := hya1 (by omega)
            have HA2 := Lib.hid (HA1.out.draw hs12 hg12)
            have hn12 := HNx.out wz12 HA2.out.dr.gr
            have hwz12 : IntKind.i64.wrap (1 + ya) = 1 + ya := IntWalk.i64_in _ (by omega)
            clear hs12 hg12 hya1
            (try go_wp2_with fail)
            refine hKq.out _ _ (hn12) (fun hHeld => ?_)
            clear hKq Kq
            (try simp only [Act.put, List.setIfInBounds_toArray, List.set_cons_zero, List.set_cons_succ])
            refine take_F (i := 9) (d := some 30) (v := ?_) (by kernel_rfl) (by kernel_rfl) rfl rfl (by kernel_rfl) (by kernel_rfl) (by kernel_rfl) (fun _ _ _ h => h) (Or.inl ⟨by rfl, ?_⟩) (by assumption) ?_
            rotate_left
            · (intro w hSw; (try dsimp only at hSw); go_simp; (try rw [if_neg (by omega)]); (try (with_reducible rfl)))
            simp only [Act.put, List.setIfInBounds_toArray, List.set_cons_zero, List.set_cons_succ]
            have hnq := HNx.out _ (PcQ.new HA2.out (.string ⟨#[]⟩) (.int .i64 0) (.int .i64 0) (.int .i64 0)).dr.gr
            refine call_L (i := 10) (d := (some 7)) rfl rfl (by kernel_rfl) (fun Kq hKq => ?_)
            go_simp
            refine hKq.out _ _ (hnq) (fun hHeld => ?_)
            clear hKq Kq
            (try simp only [Act.put, List.setIfInBounds_toArray, List.set_cons_zero, List.set_cons_succ])
            refine call_L (i := 11) (d := none) rfl rfl (by kernel_rfl) (fun Kq hKq => ?_)
            go_simp
            have HA4 := Lib.hid (PcQ.new HA2.out (.string z) (.int .i64 (-1)) (.int .i64 (1 + xa)) (.int .i64 ya))
            have hn13 := HNx.out _ HA4.out.dr.gr
            refine hKq.out _ _ (hn13) (fun hHeld => ?_)
            clear hKq Kq
            (try simp only [Act.put, List.setIfInBounds_toArray, List.set_cons_zero, List.set_cons_succ])
            refine done_L (by kernel_rfl) ?_ _
            refine NoPanic.normal ?_
            (try go_wp2_with fail)
            go_meet
            exact ⟨_, _, _, rfl, by omega, by omega, HA4.out⟩
          · go_simp
            have HB2 := Lib.hid (PcQ.new HA1.out (.string ⟨#[]⟩) (.int .i64 0) (.int .i64 0) (.int .i64 0))
            have hn14 := HNx.out _ HB2.out.dr.gr
            refine hKq.out _ _ (hn14) (fun hHeld => ?_)
            clear hKq Kq
            (try simp only [Act.put, List.setIfInBounds_toArray, List.set_cons_zero, List.set_cons_succ])
            refine call_L (i := 8) (d := (some 29)) rfl rfl (by kernel_rfl) (fun Kq hKq => ?_)
            go_simp
            go_at_call 70
            refine (pick_any B g _ bs 20 _ HB2.out.dr.src (by omega)).mono ?_; rintro e wz15 ⟨yb, rfl, ⟨hyb0, hyb1, _⟩, hs15, hg15⟩
            have hyb2 := hyb1 (by omega)
            have HB3 := Lib.hid (HB2.out.draw hs15 hg15)
            have hn15 := HNx.out wz15 HB3.out.dr.gr
            have hwz15 : IntKind.i64.wrap (1 + yb) = 1 + yb := IntWalk.i64_in _ (by omega)
            clear hs15 hg15 hyb1
            (try go_wp2_with fail)
            refine hKq.out _ _ (hn15) (fun hHeld => ?_)
            clear hKq Kq
            (try simp only [Act.put, List.setIfInBounds_toArray, List.set_cons_zero, List.set_cons_succ])
            refine take_F (i := 9) (d := some 30) (v := ?_) (by kernel_rfl) (by kernel_rfl) rfl rfl (by kernel_rfl) (by kernel_rfl) (by kernel_rfl) (fun _ _ _ h => h) (Or.inl ⟨by rfl, ?_⟩) (by assumption) ?_
            rotate_left
            · (intro w hSw; (try dsimp only at hSw); go_simp; (try rw [if_neg (by omega)]); (try (with_reducible rfl)))
            simp only [Act.put, List.setIfInBounds_toArray, List.set_cons_zero, List.set_cons_succ]
            refine call_L (i := 11) (d := none) rfl rfl (by kernel_rfl) (fun Kq hKq => ?_)
            obtain ⟨⟨c016, c116, c216, c316⟩, f016, f116, f216, f316⟩ := blk4p HB3.out.hq
            go_simp
            have HB4 := Lib.hid (HB3.out.put (.string z) (.int .i64 (-1)) (.int .i64 (1 + xa)) (.int .i64 yb))
            have hn16 := HNx.out _ HB4.out.dr.gr
            refine hKq.out _ _ (hn16) (fun hHeld => ?_)
            clear hKq Kq
            (try simp only [Act.put, List.setIfInBounds_toArray, List.set_cons_zero, List.set_cons_succ])
            refine done_L (by kernel_rfl) ?_ _
            refine NoPanic.normal ?_
            (try go_wp2_with fail)
            go_meet
            exact ⟨_, _, _, rfl, by omega, by omega, HB4.out⟩
        · go_simp
          have HC1 := Lib.hid (show PcQ W1 (wr.drew.alloc (.cells #[.string ⟨#[]⟩, .int .i64 0, .int .i64 0, .int .i64 0] 46)) B g (k + 2 + 8 * xs.length) bs (.slice (some ⟨b0, 0, none⟩) xs.length c0) xs wr.heap.size (.string ⟨#[]⟩) (.int .i64 0) (.int .i64 0) (.int .i64 0) from PcQ.new HDd.out (.string ⟨#[]⟩) (.int .i64 0) (.int .i64 0) (.int .i64 0))
          have hn17 := HNx.out _ HC1.out.dr.gr
          refine hKq.out _ _ (hn17) (fun hHeld => ?_)
          clear hKq Kq
          (try simp only [Act.put, List.setIfInBounds_toArray, List.set_cons_zero, List.set_cons_succ])
          refine call_L (i := 5) (d := (some 26)) rfl rfl (by kernel_rfl) (fun Kq hKq => ?_)
          go_simp
          go_at_call 70
          refine (pick_any B g _ bs 4 _ HC1.out.dr.src (by omega)).mono ?_; rintro e wz18 ⟨xc, rfl, ⟨hxc0, hxc1, _⟩, hs18, hg18⟩
          have hxc2 := hxc1 (by omega)
          have HC2 := Lib.hid (HC1.out.draw hs18 hg18)
          have hn18 := HNx.out wz18 HC2.out.dr.gr
          have hwz18 : IntKind.i64.wrap (1 + xc) = 1 + xc := IntWalk.i64_in _ (by omega)
          clear hs18 hg18 hxc1
          (try go_wp2_with fail)
          refine hKq.out _ _ (hn18) (fun hHeld => ?_)
          clear hKq Kq
          (try simp only [Act.put, List.setIfInBounds_toArray, List.set_cons_zero, List.set_cons_succ])
          refine take_F (i := 6) (d := some 27) (v := ?_) (by kernel_rfl) (by kernel_rfl) rfl rfl (by kernel_rfl) (by kernel_rfl) (by kernel_rfl) (fun _ _ _ h => h) (Or.inl ⟨by rfl, ?_⟩) (by assumption) ?_
          rotate_left
          · (intro w hSw; (try dsimp only at hSw); go_simp; (try rw [if_neg (by omega)]); (try (with_reducible rfl)))
          simp only [Act.put, List.setIfInBounds_toArray, List.set_cons_zero, List.set_cons_succ]
          refine call_L (i := 8) (d := (some 29)) rfl rfl (by kernel_rfl) (fun Kq hKq => ?_)
          go_simp
          go_at_call 70
          refine (pick_any B g _ bs 20 _ HC2.out.dr.src (by omega)).mono ?_; rintro e wz19 ⟨yc, rfl, ⟨hyc0, hyc1, _⟩, hs19, hg19⟩
          have hyc2 := hyc1 (by omega)
          have HC3 := Lib.hid (HC2.out.draw hs19 hg19)
          have hn19 := HNx.out wz19 HC3.out.dr.gr
          have hwz19 : IntKind.i64.wrap (1 + yc) = 1 + yc := IntWalk.i64_in _ (by omega)
          clear hs19 hg19 hyc1
          (try go_wp2_with fail)
          refine hKq.out _ _ (hn19) (fun hHeld => ?_)
          clear hKq Kq
          (try simp only [Act.put, List.setIfInBounds_toArray, List.set_cons_zero, List.set_cons_succ])
          refine take_F (i := 9) (d := some 30) (v := ?_) (by kernel_rfl) (by kernel_rfl) rfl rfl (by kernel_rfl) (by kernel_rfl) (by kernel_rfl) (fun _ _ _ h => h) (Or.inl ⟨by rfl, ?_⟩) (by assumption) ?_
          rotate_left
          · (intro w hSw; (try dsimp only at hSw); go_simp; (try rw [if_neg (by omega)]); (try (with_reducible rfl)))
          simp only [Act.put, List.setIfInBounds_toArray, List.set_cons_zero, List.set_cons_succ]
          refine call_L (i := 11) (d := none) rfl rfl (by kernel_rfl) (fun Kq hKq => ?_)
          obtain ⟨⟨c020, c120, c220, c320⟩, f020, f120, f220, f320⟩ := blk4p HC3.out.hq
          go_simp
          have HC4 := Lib.hid (HC3.out.put (.string z) (.int .i64 (-1)) (.int .i64 (1 + xc)) (.int .i64 yc))
          have hn20 := HNx.out _ HC4.out.dr.gr
          refine hKq.out _ _ (hn20) (fun hHeld => ?_)
          clear hKq Kq
          (try simp only [Act.put, List.setIfInBounds_toArray, List.set_cons_zero, List.set_cons_succ])
          refine done_L (by kernel_rfl) ?_ _
          refine NoPanic.normal ?_
          (try go_wp2_with fail)
          go_meet
          exact ⟨_, _, _, rfl, by omega, by omega, HC4.out⟩
      case rest =>
        obtain ⟨q, y2, y3, rfl, hy2, hy3, hQ⟩ := hcut
        have HQ := Lib.hid hQ
        clear hQ HD HDd hn HNx
        by_cases h0 : xs.length = 0
        · have h0' : ¬ ((0 : Int) < (xs.length : Int)) := by omega
          have Hh0 := Lib.hid h0
          clear h0
          go_wp2_with fail
          refine (pick_any B g _ bs 2 _ HQ.out.dr.src (by omega)).mono ?_; rintro e wy1 ⟨p1, rfl, ⟨hp0, hp1, _⟩, hs1, hg1⟩
          have HQ1 := Lib.hid (HQ.out.draw hs1 hg1)
          have hp2 := hp1 (by omega)
          clear hs1 hg1 hp1
          go_wp2_with fail
          refine (pick_any B g _ bs 2 _ HQ1.out.dr.src (by omega)).mono ?_; rintro e wy2 ⟨r1, rfl, ⟨hr0, hr1, _⟩, hs2, hg2⟩
          have HQ2 := Lib.hid (HQ1.out.draw hs2 hg2)
          have hr2 := hr1 (by omega)
          have hPm : 0 ≤ p1 * r1 ∧ p1 * r1 ≤ 1 := by
            have e1 : p1 = 0 ∨ p1 = 1 := by omega
            rcases e1 with rfl | rfl <;> omega
          have hwm : IntKind.i64.wrap (p1 * r1) = p1 * r1 := IntWalk.i64_in _ (by omega)
          have hwa : IntKind.i64.wrap (1 + p1 * r1) = 1 + p1 * r1 := IntWalk.i64_in _ (by omega)
          obtain ⟨⟨_, _, e2, _⟩, _, _, f2, _⟩ := blk4p HQ2.out.hq
          clear hs2 hg2 hr1
          obtain ⟨M, hM⟩ : ∃ z, p1 * r1 = z := ⟨_, rfl⟩
          rw [hM] at hwm hwa
          go_upto_region 11 with (fail)
          (try rw [hM])
          have HQ3 := Lib.hid (HQ2.out.set 2 (.int .i64 (1 + M)) rfl rfl)
          generalize wy2.setCell ⟨q, 2, none⟩ (.int .i64 (1 + M)) = wy3 at *
          clear HQ HQ1 HQ2 e2 f2 hwm hwa
          have Hon := Lib.hid (ones4 z (-1) (1 + M) (y3))
          obtain ⟨⟨d0, d1, d2, d3⟩, -⟩ := blk4p HQ3.out.hq
          have Hsn := Lib.hid (fun (v' : Value) (w' : World) hr hg => HQ3.out.toDrC.snoc (w' := w') (v' := v') (x := ⟨z, -1, 1 + M, y3⟩) (by omega) hz16 hr hg)
          have Hro := Lib.hid HQ3.out.dr.row
          have Hgs := Lib.hid (Hgd.out.snoc (x := ⟨z, -1, 1 + M, y3⟩) (fun _ => rfl) (fun h => absurd Hh0.out (by omega)) (by dsimp only; omega) (by dsimp only; omega))
          have Hsz := Lib.hid HQ3.out.dr.size
          go_wp2_with (at_builtin; refine wpList_apd 24 46 _ 4 40 Tryd.underlying24 infoP rfl (by omega) _ _ rfl rfl W1.heap.size _ _ _ rfl Hro.out #[.string z, .int .i64 (-1), .int .i64 (1 + M), .int .i64 (y3)] 1 1 rfl rfl Hon.out (by simp [maxLen]; omega) (by omega) Hsz.out ?_; intro v9 w9 hown9 hg9; obtain ⟨zs, hzl, hze, hd9⟩ := Hsn.out v9 w9 hown9 hg9; have Hg9 := Lib.hid (goodEq hze Hgs.out); clear hze; have HD9 := Lib.hid hd9; have Hzl := Lib.hid hzl; obtain ⟨b9, cp9, rfl⟩ := hd9.nn; clear hown9 hg9 hd9 hzl)
          go_roundw
          case rel => exact ⟨j - 1, zs, by have := Hjc.out; have := Hzl.out; omega, by rw [Hjj.out], Hg9.out, HD9.out.more (by have := Hzl.out; omega)⟩
          case measure => simp [intOf]; omega
        · have h0' : (0 : Int) < (xs.length : Int) := by omega
          go_wp2_with fail
          refine (pick_any B g _ bs xs.length _ HQ.out.dr.src (by omega)).mono ?_; rintro e wy1 ⟨p1, rfl, ⟨hp0, hpa, hpb⟩, hs1, hg1⟩
          have hpx : p1 < (xs.length : Int) := by
            by_cases e1 : xs.length = 1
            · have := hpb (by omega); omega
            · exact hpa (by omega)
          have HQ1 := Lib.hid (HQ.out.draw hs1 hg1)
          clear hpa hpb
          obtain ⟨⟨_, e2, _, _⟩, _, f2, _, _⟩ := blk4p HQ1.out.hq
          clear hs1 hg1
          go_upto_region 11 with (fail)
          have HQ3 := Lib.hid (HQ1.out.set 1 (.int .i64 p1) rfl rfl)
          generalize wy1.setCell ⟨q, 1, none⟩ (.int .i64 p1) = wy3 at *
          clear HQ HQ1 e2 f2
          have Hon := Lib.hid (ones4 z (p1) (y2) (y3))
          obtain ⟨⟨d0, d1, d2, d3⟩, -⟩ := blk4p HQ3.out.hq
          have Hsn := Lib.hid (fun (v' : Value) (w' : World) hr hg => HQ3.out.toDrC.snoc (w' := w') (v' := v') (x := ⟨z, p1, y2, y3⟩) (by omega) hz16 hr hg)
          have Hro := Lib.hid HQ3.out.dr.row
          have Hgs := Lib.hid (Hgd.out.snoc (x := ⟨z, p1, y2, y3⟩) (fun h => absurd h (by omega)) (fun _ => ⟨hp0, hpx⟩) (by dsimp only; omega) (by dsimp only; omega))
          have Hsz := Lib.hid HQ3.out.dr.size
          go_wp2_with (at_builtin; refine wpList_apd 24 46 _ 4 40 Tryd.underlying24 infoP rfl (by omega) _ _ rfl rfl W1.heap.size _ _ _ rfl Hro.out #[.string z, .int .i64 (p1), .int .i64 (y2), .int .i64 (y3)] 1 1 rfl rfl Hon.out (by simp [maxLen]; omega) (by omega) Hsz.out ?_; intro v9 w9 hown9 hg9; obtain ⟨zs, hzl, hze, hd9⟩ := Hsn.out v9 w9 hown9 hg9; have Hg9 := Lib.hid (goodEq hze Hgs.out); clear hze; have HD9 := Lib.hid hd9; have Hzl := Lib.hid hzl; obtain ⟨b9, cp9, rfl⟩ := hd9.nn; clear hown9 hg9 hd9 hzl)
          go_roundw
          case rel => exact ⟨j - 1, zs, by have := Hjc.out; have := Hzl.out; omega, by rw [Hjj.out], Hg9.out, HD9.out.more (by have := Hzl.out; omega)⟩
          case measure => simp [intOf]; omega
    · have hj0 : j = 0 := by omega
      subst hj0
      have Hz := Lib.hid (HD.out.from Hg0.out hlt)
      clear HD hd hjc
      go_wp2_with fail
      go_ret
      exact ⟨_, xs, rfl, by have := Hjc.out; omega, hxl, Hgd.out, Hz.out.more (by omega)⟩
end Go.Proofs.YtepgfcjfdnakbaaDoor
/- Inventories, part 30: l21Wide (gen_pc30.py). -/
namespace Go.Proofs.YtepgfcjfdnakbaaDoor
open Go.RowKit Go.Joins

/-- a list of pieces of the call's own, with short names -/
structure OwC (W w : World) (v : Value) (xs : List Pc) : Prop where
  row : w.ownsRow W.heap.size 46 4 v xs.length (xs.flatMap cellsP)
  bel : Below W.heap.size W w
  sm : ∀ x ∈ xs, x.name.size ≤ 16
  nn : ∃ b c, v = .slice (some ⟨b, 0, none⟩) xs.length c
theorem OwC.snoc {W w w' : World} {v v' : Value} {xs : List Pc} {x : Pc} (h : OwC W w v xs) (hx : x.name.size ≤ 16)
    (hr : w'.ownsRow W.heap.size 46 4 v' (xs.length + 1) (xs.flatMap cellsP ++ (#[Value.string x.name, .int .i64 x.par, .int .i64 x.each, .int .i64 x.price] : Array Value).toList)) (hg : w.grownBy w' v.ownBlock) :
    ∃ zs, zs.length = xs.length + 1 ∧ zs = xs ++ [x] ∧ OwC W w' v' zs := by
  have e : xs.flatMap cellsP ++ (#[Value.string x.name, .int .i64 x.par, .int .i64 x.each, .int .i64 x.price] : Array Value).toList = (xs ++ [x]).flatMap cellsP := by
    rw [List.flatMap_append]; simp [cellsP]
  rw [e] at hr
  have hlen : (xs ++ [x]).length = xs.length + 1 := by simp
  refine ⟨_, hlen, rfl, ⟨by rw [hlen]; exact hr, h.bel.grown hg h.bel.size (fun k hk => (h.row.lt k hk).1), fun y hy => ?_, ?_⟩⟩
  · rcases List.mem_append.1 hy with hy | hy
    · exact h.sm y hy
    · rw [List.mem_singleton.1 hy]; exact hx
  · obtain ⟨b, c, hv, _⟩ := own_posC hr (by omega)
    exact ⟨b, c, by rw [hv, hlen]⟩
theorem OwC.alloc {W w : World} {v : Value} {xs : List Pc} (h : OwC W w v xs) (o : Obj) : OwC W (w.alloc o) v xs := ⟨h.row.alloc o, h.bel.alloc h.bel.size o, h.sm, h.nn⟩
theorem OwC.drew {W w : World} {v : Value} {xs : List Pc} (h : OwC W w v xs) : OwC W w.drew v xs := ⟨h.row.drew, h.bel.drew, h.sm, h.nn⟩
def RetWc (n : Nat) (w : World) (e : Ending) (w' : World) : Prop := ∃ v xs, e = .returned v ∧ xs.length = n ∧ GoodP xs ∧ OwC w w' v xs
set_option maxRecDepth 100000 in
set_option maxHeartbeats 3200000 in
theorem l21Wide_any (M : Nat) (w : World) (hM : M ≤ 60) :
    Calls Tryd.prog 69 #[.int .i64 (M : Int)] w (RetWc M w) := by
  have HD0 := Lib.hid (show OwC w (w.alloc (.cells #[] 46)) (.slice (some ⟨w.heap.size, 0, none⟩) 0 0) [] from ⟨World.ownsRow_made (base := w.heap.size) (e := 46) (size := 4) w #[] 0 (Nat.le_refl _) (by simp [maxLen]) rfl, (Below.refl _ _).alloc (Nat.le_refl _) _, fun x hx => (by cases hx), _, _, rfl⟩)
  go_enter Tryd.func69, Tryd.ntmps69
  go_wp2_with fail
  go_loopw [3, 4] (fun o i wr => ∃ xs : List Pc, xs.length ≤ M ∧ i = .int .i64 (xs.length : Int) ∧ GoodP xs ∧ OwC w wr o xs) (fun _ i _ => M - (intOf i).toNat)
  case atStart => exact ⟨[], by simp, rfl, GoodP.nil, HD0.out⟩
  case round =>
    obtain ⟨xs, hxm, rfl, hgd, hd⟩ := hrel
    obtain ⟨b0, c0, rfl⟩ := hd.nn
    clear HD0
    by_cases hlt : xs.length < M
    · have hlt' : (xs.length : Int) < (M : Int) := by omega
      obtain ⟨c1, hc1⟩ : ∃ c : UInt8, (c.toNat : Int) = 97 + (xs.length : Int) / 26 := ⟨UInt8.ofNat (97 + xs.length / 26), by simp; omega⟩
      obtain ⟨c2, hc2⟩ : ∃ c : UInt8, (c.toNat : Int) = 97 + (xs.length : Int) % 26 := ⟨UInt8.ofNat (97 + xs.length % 26), by simp; omega⟩
      have HMn := Lib.hid (fun wx => l00Min_c 0 ((xs.length : Int) - 1) wx)
      obtain ⟨mn, hmn⟩ : ∃ z, min 0 ((xs.length : Int) - 1) = z := ⟨_, rfl⟩
      rw [hmn] at HMn
      have hwj : IntKind.i64.wrap ((xs.length : Int) - 1) = (xs.length : Int) - 1 := IntWalk.i64_in _ (by omega)
      have hj0 : (0 : Int) ≤ (xs.length : Int) := by omega
      have hu1 : IntKind.u8.wrap (IntKind.i64.wrap (97 + IntKind.i64.wrap ((xs.length : Int) / 26))) = (c1.toNat : Int) := by
        rw [IntWalk.i64_in ((xs.length : Int) / 26) (by omega), IntWalk.i64_in _ (by omega), ← hc1]
        exact IntWalk.u8_in _ (by omega)
      have htm : (xs.length : Int).tmod 26 = (xs.length : Int) % 26 := Int.tmod_eq_emod_of_nonneg hj0
      have hu2 : IntKind.u8.wrap (IntKind.i64.wrap (97 + (xs.length : Int).tmod 26)) = (c2.toNat : Int) := by
        rw [htm, IntWalk.i64_in _ (by omega), ← hc2]
        exact IntWalk.u8_in _ (by omega)
      have hcv := run_convert_bytes_back (P := Tryd.prog) ((wr.alloc (.cells #[.int .u8 (c1.toNat : Int), .int .u8 (c2.toNat : Int)] 5)).drew) 22 9 5 ⟨wr.heap.size, 0, none⟩ 2 [c1, c2] Tryd.underlying22 Tryd.underlying5 Tryd.underlying9 (fun i hi => by
        have hi2 : i < 2 := hi
        exact new_cells wr #[.int .u8 (c1.toNat : Int), .int .u8 (c2.toNat : Int)] 5 i _ (by
          rcases (show i = 0 ∨ i = 1 by omega) with rfl | rfl <;> rfl))
      have hcv : (convert 22 9 (.slice (some ⟨wr.heap.size, 0, none⟩) 2 2)).run Tryd.prog ((wr.alloc (.cells #[.int .u8 (c1.toNat : Int), .int .u8 (c2.toNat : Int)] 5)).drew) = .ok (.string ⟨#[c1, c2]⟩) ((wr.alloc (.cells #[.int .u8 (c1.toNat : Int), .int .u8 (c2.toNat : Int)] 5)).drew) := hcv
      obtain ⟨Z, hZ⟩ : ∃ z : ByteArray, (⟨#[112]⟩ : ByteArray) ++ ⟨#[c1, c2]⟩ = z := ⟨_, rfl⟩
      have hZs : Z.size ≤ 16 := by rw [← hZ]; show 3 ≤ 16; omega
      have HDa := Lib.hid (hd.alloc (.cells #[.int .u8 (c1.toNat : Int), .int .u8 (c2.toNat : Int)] 5))
      have Hra := Lib.hid HDa.out.row
      have Hsz1 := Lib.hid (show (wr.alloc (.cells #[.int .u8 (c1.toNat : Int), .int .u8 (c2.toNat : Int)] 5)).heap.size = wr.heap.size + 1 by simp)
      have Hsa := Lib.hid HDa.out.bel.size
      have Hsn := Lib.hid (fun (v' : Value) (w' : World) hr hg => HDa.out.snoc (w' := w') (v' := v') (x := ⟨Z, mn, 1, (xs.length : Int)⟩) hZs hr hg)
      have Hgs := Lib.hid (hgd.snoc (x := ⟨Z, mn, 1, (xs.length : Int)⟩) (fun h => by dsimp only; omega) (fun h => by dsimp only; omega) (by dsimp only; omega) (by dsimp only; omega))
      clear hgd
      have Hon := Lib.hid (ones4 Z mn 1 (xs.length : Int))
      have hmx : xs.length + 1 ≤ maxLen := by simp [maxLen]; omega
      have hby : (xs.length + 1) * 40 ≤ 140737488355328 := by omega
      clear hmn htm hc1 hc2 hd HDa hZs
      go_wp2_with fail
      refine wp_region_noPanic ?_
      refine wp_region_L [19,18] (fun _ => True) (by kernel_rfl) (trivial) (fun hHeld => ?_)
      refine take_F (i := 0) (d := some 11) (v := ?_) (by kernel_rfl) (by kernel_rfl) rfl rfl (by kernel_rfl) (by kernel_rfl) (by kernel_rfl) (fun _ _ _ h => h) (Or.inl ⟨by rfl, ?_⟩) (by assumption) ?_
      rotate_left
      · (intro w hSw; (try dsimp only at hSw); go_simp; (try rw [if_neg (by omega)]); (try (with_reducible rfl)))
      simp only [Act.put, List.setIfInBounds_toArray, List.set_cons_zero, List.set_cons_succ]
      refine take_F (i := 1) (d := some 12) (v := ?_) (by kernel_rfl) (by kernel_rfl) rfl rfl (by kernel_rfl) (by kernel_rfl) (by kernel_rfl) (fun _ _ _ h => h) (Or.inl ⟨by rfl, ?_⟩) (by assumption) ?_
      rotate_left
      · (intro w hSw; (try dsimp only at hSw); go_simp; (try rw [if_neg (by omega)]); (try (with_reducible rfl)))
      simp only [Act.put, List.setIfInBounds_toArray, List.set_cons_zero, List.set_cons_succ]
      refine take_F (i := 2) (d := some 13) (v := ?_) (by kernel_rfl) (by kernel_rfl) rfl rfl (by kernel_rfl) (by kernel_rfl) (by kernel_rfl) (fun _ _ _ h => h) (Or.inl ⟨by rfl, ?_⟩) (by assumption) ?_
      rotate_left
      · (intro w hSw; (try dsimp only at hSw); go_simp; (try rw [if_neg (by omega)]); (try (with_reducible rfl)))
      simp only [Act.put, List.setIfInBounds_toArray, List.set_cons_zero, List.set_cons_succ]
      refine take_F (i := 3) (d := some 14) (v := ?_) (by kernel_rfl) (by kernel_rfl) rfl rfl (by kernel_rfl) (by kernel_rfl) (by kernel_rfl) (fun _ _ _ h => h) (Or.inl ⟨by rfl, ?_⟩) (by assumption) ?_
      rotate_left
      · (intro w hSw; (try dsimp only at hSw); go_simp; (try rw [if_neg (by omega)]); (try (with_reducible rfl)))
      simp only [Act.put, List.setIfInBounds_toArray, List.set_cons_zero, List.set_cons_succ]
      refine take_F (i := 4) (d := some 15) (v := ?_) (by kernel_rfl) (by kernel_rfl) rfl rfl (by kernel_rfl) (by kernel_rfl) (by kernel_rfl) (fun _ _ _ h => h) (Or.inl ⟨by rfl, ?_⟩) (by assumption) ?_
      rotate_left
      · (intro w hSw; (try dsimp only at hSw); go_simp; (try rw [if_neg (by omega)]); (try (with_reducible rfl)))
      simp only [Act.put, List.setIfInBounds_toArray, List.set_cons_zero, List.set_cons_succ]
      refine take_F (i := 5) (d := some 16) (v := ?_) (by kernel_rfl) (by kernel_rfl) rfl rfl (by kernel_rfl) (by kernel_rfl) (by kernel_rfl) (fun _ _ _ h => h) (Or.inl ⟨by rfl, ?_⟩) (by assumption) ?_
      rotate_left
      · (intro w hSw; (try dsimp only at hSw); go_simp; (try rw [if_neg (by omega)]); (try (with_reducible rfl)))
      simp only [Act.put, List.setIfInBounds_toArray, List.set_cons_zero, List.set_cons_succ]
      refine take_F (i := 6) (d := some 17) (v := ?_) (by kernel_rfl) (by kernel_rfl) rfl rfl (by kernel_rfl) (by kernel_rfl) (by kernel_rfl) (fun _ _ _ h => h) (Or.inl ⟨by rfl, ?_⟩) (by assumption) ?_
      rotate_left
      · (intro w hSw; (try dsimp only at hSw); go_simp; (try rw [if_neg (by omega)]); (try (with_reducible rfl)))
      simp only [Act.put, List.setIfInBounds_toArray, List.set_cons_zero, List.set_cons_succ]
      refine take_F (i := 7) (d := some 18) (v := ?_) (by kernel_rfl) (by kernel_rfl) rfl rfl (by kernel_rfl) (by kernel_rfl) (by kernel_rfl) (fun _ _ _ h => h) (Or.inl ⟨by rfl, ?_⟩) (by assumption) ?_
      rotate_left
      · (intro w hSw; (try dsimp only at hSw); go_simp; (try rw [if_neg (by omega)]); (try (with_reducible rfl)))
      simp only [Act.put, List.setIfInBounds_toArray, List.set_cons_zero, List.set_cons_succ]
      refine take_F (i := 8) (d := some 19) (v := ?_) (by kernel_rfl) (by kernel_rfl) rfl rfl (by kernel_rfl) (by kernel_rfl) (by kernel_rfl) (fun _ _ _ h => h) (Or.inl ⟨by rfl, ?_⟩) (by assumption) ?_
      rotate_left
      · (intro w hSw; (try dsimp only at hSw); go_simp; (try rw [if_neg (by omega)]); (try (with_reducible rfl)))
      simp only [Act.put, List.setIfInBounds_toArray, List.set_cons_zero, List.set_cons_succ]
      refine take_F (i := 12) (d := some 23) (v := ?_) (by kernel_rfl) (by kernel_rfl) rfl rfl (by kernel_rfl) (by kernel_rfl) (by kernel_rfl) (fun _ _ _ h => h) (Or.inl ⟨by rfl, ?_⟩) (by assumption) ?_
      rotate_left
      · (intro w hSw; (try dsimp only at hSw); go_simp; (try rw [if_neg (by omega)]); (try (with_reducible rfl)))
      simp only [Act.put, List.setIfInBounds_toArray, List.set_cons_zero, List.set_cons_succ]
      refine take_F (i := 13) (d := some 24) (v := ?_) (by kernel_rfl) (by kernel_rfl) rfl rfl (by kernel_rfl) (by kernel_rfl) (by kernel_rfl) (fun _ _ _ h => h) (Or.inl ⟨by rfl, ?_⟩) (by assumption) ?_
      rotate_left
      · (intro w hSw; (try dsimp only at hSw); go_simp; (try rw [if_neg (by omega)]); (try (with_reducible rfl)))
      simp only [Act.put, List.setIfInBounds_toArray, List.set_cons_zero, List.set_cons_succ]
      refine take_F (i := 15) (d := some 26) (v := ?_) (by kernel_rfl) (by kernel_rfl) rfl rfl (by kernel_rfl) (by kernel_rfl) (by kernel_rfl) (fun _ _ _ h => h) (Or.inl ⟨by rfl, ?_⟩) (by assumption) ?_
      rotate_left
      · (intro w hSw; (try dsimp only at hSw); go_simp; (try rw [if_neg (by omega)]); (try (with_reducible rfl)))
      simp only [Act.put, List.setIfInBounds_toArray, List.set_cons_zero, List.set_cons_succ]
      (try rw [hu1, hu2])
      clear hu1 hu2
      refine both_L (i := 9) (j := 14) (di := (some 20)) (dj := (some 25)) rfl rfl rfl rfl (by kernel_rfl) (fun Kq hKq => ?_) (fun Kq hKq => ?_)
      · go_simp
        refine hKq.out _ _ (trivial) (fun hHeld => ?_)
        clear hKq Kq
        (try simp only [Act.put, List.setIfInBounds_toArray, List.set_cons_zero, List.set_cons_succ])
        refine both_L (i := 10) (j := 14) (di := (some 21)) (dj := (some 25)) rfl rfl rfl rfl (by kernel_rfl) (fun Kq hKq => ?_) (fun Kq hKq => ?_)
        · go_simp
          (try rw [if_neg (by omega)])
          refine hKq.out _ _ (trivial) (fun hHeld => ?_)
          clear hKq Kq
          (try simp only [Act.put, List.setIfInBounds_toArray, List.set_cons_zero, List.set_cons_succ])
          refine take_F (i := 11) (d := some 22) (v := ?_) (by kernel_rfl) (by kernel_rfl) rfl rfl (by kernel_rfl) (by kernel_rfl) (by kernel_rfl) (fun _ _ _ h => h) (Or.inl ⟨by rfl, ?_⟩) (by assumption) ?_
          rotate_left
          · (intro w hSw; (try dsimp only at hSw); go_simp; (try rw [if_neg (by omega)]); (try (with_reducible rfl)))
          simp only [Act.put, List.setIfInBounds_toArray, List.set_cons_zero, List.set_cons_succ]
          refine call_L (i := 14) (d := (some 25)) rfl rfl (by kernel_rfl) (fun Kq hKq => ?_)
          go_simp
          go_at_call 90
          refine (HMn.out _).mono ?_; rintro e wm ⟨rfl, rfl⟩
          (try go_wp2_with fail)
          refine hKq.out _ _ (trivial) (fun hHeld => ?_)
          clear hKq Kq
          (try simp only [Act.put, List.setIfInBounds_toArray, List.set_cons_zero, List.set_cons_succ])
          refine take_F (i := 16) (d := some 27) (v := ?_) (by kernel_rfl) (by kernel_rfl) rfl rfl (by kernel_rfl) (by kernel_rfl) (by kernel_rfl) (fun _ _ _ h => h) (Or.inl ⟨by rfl, ?_⟩) (by assumption) ?_
          rotate_left
          · (intro w hSw; (try dsimp only at hSw); go_simp; (try rw [if_neg (by omega)]); (try (with_reducible rfl)))
          simp only [Act.put, List.setIfInBounds_toArray, List.set_cons_zero, List.set_cons_succ]
          refine call_L (i := 17) (d := (some 28)) rfl rfl (by kernel_rfl) (fun Kq hKq => ?_)
          go_simp
          refine hKq.out _ _ (trivial) (fun hHeld => ?_)
          clear hKq Kq
          (try simp only [Act.put, List.setIfInBounds_toArray, List.set_cons_zero, List.set_cons_succ])
          refine late_L (i := 18) (d := (some 29)) (by kernel_rfl) rfl rfl (by kernel_rfl) (fun Kq hKq => ?_)
          refine step_apd 24 46 _ 4 40 Tryd.underlying24 infoP rfl (by omega) _ _ (by rfl) (by rfl) w.heap.size _ xs.length _ (by rfl) Hra.out #[.string Z, .int .i64 mn, .int .i64 1, .int .i64 xs.length] 1 1 (by rw [Hsz1.out]; rfl) (by rfl) Hon.out hmx hby Hsa.out ?_; intro v9 w9 hown9 hg9
          obtain ⟨zs, hzl, hze, hd9⟩ := Hsn.out v9 w9 hown9 hg9
          have Hg9 := Lib.hid (goodEq hze Hgs.out)
          clear hze
          obtain ⟨b9, cp9, rfl⟩ := hd9.nn
          have HD9 := Lib.hid hd9
          have Hzl := Lib.hid hzl
          clear hown9 hg9 hd9 hzl
          refine hKq.out _ _ ?_
          clear hKq Kq
          simp only [Act.put, List.setIfInBounds_toArray]
          refine late_L (i := 19) (d := (some 3)) (by kernel_rfl) rfl rfl (by kernel_rfl) (fun Kq hKq => ?_)
          go_simp
          refine hKq.out _ _ ?_
          clear hKq Kq
          refine done_L (by kernel_rfl) ?_ _
          refine NoPanic.normal ?_
          go_wp2_with fail
          go_roundw
          case rel => exact ⟨zs, by have := Hzl.out; omega, by rw [Hzl.out]; first | rfl | (congr 1; omega), Hg9.out, HD9.out⟩
          case measure => first | (simp [intOf]; done) | (simp [intOf]; omega)
        · go_simp
          go_at_call 90
          refine (HMn.out _).mono ?_; rintro e wm ⟨rfl, rfl⟩
          (try go_wp2_with fail)
          refine hKq.out _ _ (trivial) (fun hHeld => ?_)
          clear hKq Kq
          (try simp only [Act.put, List.setIfInBounds_toArray, List.set_cons_zero, List.set_cons_succ])
          refine call_L (i := 10) (d := (some 21)) rfl rfl (by kernel_rfl) (fun Kq hKq => ?_)
          go_simp
          (try rw [if_neg (by omega)])
          refine hKq.out _ _ (trivial) (fun hHeld => ?_)
          clear hKq Kq
          (try simp only [Act.put, List.setIfInBounds_toArray, List.set_cons_zero, List.set_cons_succ])
          refine take_F (i := 11) (d := some 22) (v := ?_) (by kernel_rfl) (by kernel_rfl) rfl rfl (by kernel_rfl) (by kernel_rfl) (by kernel_rfl) (fun _ _ _ h => h) (Or.inl ⟨by rfl, ?_⟩) (by assumption) ?_
          rotate_left
          · (intro w hSw; (try dsimp only at hSw); go_simp; (try rw [if_neg (by omega)]); (try (with_reducible rfl)))
          simp only [Act.put, List.setIfInBounds_toArray, List.set_cons_zero, List.set_cons_succ]
          refine take_F (i := 16) (d := some 27) (v := ?_) (by kernel_rfl) (by kernel_rfl) rfl rfl (by kernel_rfl) (by kernel_rfl) (by kernel_rfl) (fun _ _ _ h => h) (Or.inl ⟨by rfl, ?_⟩) (by assumption) ?_
          rotate_left
          · (intro w hSw; (try dsimp only at hSw); go_simp; (try rw [if_neg (by omega)]); (try (with_reducible rfl)))
          simp only [Act.put, List.setIfInBounds_toArray, List.set_cons_zero, List.set_cons_succ]
          refine call_L (i := 17) (d := (some 28)) rfl rfl (by kernel_rfl) (fun Kq hKq => ?_)
          go_simp
          refine hKq.out _ _ (trivial) (fun hHeld => ?_)
          clear hKq Kq
          (try simp only [Act.put, List.setIfInBounds_toArray, List.set_cons_zero, List.set_cons_succ])
          refine late_L (i := 18) (d := (some 29)) (by kernel_rfl) rfl rfl (by kernel_rfl) (fun Kq hKq => ?_)
          refine step_apd 24 46 _ 4 40 Tryd.underlying24 infoP rfl (by omega) _ _ (by rfl) (by rfl) w.heap.size _ xs.length _ (by rfl) Hra.out #[.string Z, .int .i64 mn, .int .i64 1, .int .i64 xs.length] 1 1 (by rw [Hsz1.out]; rfl) (by rfl) Hon.out hmx hby Hsa.out ?_; intro v9 w9 hown9 hg9
          obtain ⟨zs, hzl, hze, hd9⟩ := Hsn.out v9 w9 hown9 hg9
          have Hg9 := Lib.hid (goodEq hze Hgs.out)
          clear hze
          obtain ⟨b9, cp9, rfl⟩ := hd9.nn
          have HD9 := Lib.hid hd9
          have Hzl := Lib.hid hzl
          clear hown9 hg9 hd9 hzl
          refine hKq.out _ _ ?_
          clear hKq Kq
          simp only [Act.put, List.setIfInBounds_toArray]
          refine late_L (i := 19) (d := (some 3)) (by kernel_rfl) rfl rfl (by kernel_rfl) (fun Kq hKq => ?_)
          go_simp
          refine hKq.out _ _ ?_
          clear hKq Kq
          refine done_L (by kernel_rfl) ?_ _
          refine NoPanic.normal ?_
          go_wp2_with fail
          go_roundw
          case rel => exact ⟨zs, by have := Hzl.out; omega, by rw [Hzl.out]; first | rfl | (congr 1; omega), Hg9.out, HD9.out⟩
          case measure => first | (simp [intOf]; done) | (simp [intOf]; omega)
      · go_simp
        go_at_call 90
        refine (HMn.out _).mono ?_; rintro e wm ⟨rfl, rfl⟩
        (try go_wp2_with fail)
        refine hKq.out _ _ (trivial) (fun hHeld => ?_)
        clear hKq Kq
        (try simp only [Act.put, List.setIfInBounds_toArray, List.set_cons_zero, List.set_cons_succ])
        refine call_L (i := 9) (d := (some 20)) rfl rfl (by kernel_rfl) (fun Kq hKq => ?_)
        go_simp
        refine hKq.out _ _ (trivial) (fun hHeld => ?_)
        clear hKq Kq
        (try simp only [Act.put, List.setIfInBounds_toArray, List.set_cons_zero, List.set_cons_succ])
        refine call_L (i := 10) (d := (some 21)) rfl rfl (by kernel_rfl) (fun Kq hKq => ?_)
        go_simp
        (try rw [if_neg (by omega)])
        refine hKq.out _ _ (trivial) (fun hHeld => ?_)
        clear hKq Kq
        (try simp only [Act.put, List.setIfInBounds_toArray, List.set_cons_zero, List.set_cons_succ])
        refine take_F (i := 11) (d := some 22) (v := ?_) (by kernel_rfl) (by kernel_rfl) rfl rfl (by kernel_rfl) (by kernel_rfl) (by kernel_rfl) (fun _ _ _ h => h) (Or.inl ⟨by rfl, ?_⟩) (by assumption) ?_
        rotate_left
        · (intro w hSw; (try dsimp only at hSw); go_simp; (try rw [if_neg (by omega)]); (try (with_reducible rfl)))
        simp only [Act.put, List.setIfInBounds_toArray, List.set_cons_zero, List.set_cons_succ]
        refine take_F (i := 16) (d := some 27) (v := ?_) (by kernel_rfl) (by kernel_rfl) rfl rfl (by kernel_rfl) (by kernel_rfl) (by kernel_rfl) (fun _ _ _ h => h) (Or.inl ⟨by rfl, ?_⟩) (by assumption) ?_
        rotate_left
        · (intro w hSw; (try dsimp only at hSw); go_simp; (try rw [if_neg (by omega)]); (try (with_reducible rfl)))
        simp only [Act.put, List.setIfInBounds_toArray, List.set_cons_zero, List.set_cons_succ]
        refine call_L (i := 17) (d := (some 28)) rfl rfl (by kernel_rfl) (fun Kq hKq => ?_)
        go_simp
        refine hKq.out _ _ (trivial) (fun hHeld => ?_)
        clear hKq Kq
        (try simp only [Act.put, List.setIfInBounds_toArray, List.set_cons_zero, List.set_cons_succ])
        refine late_L (i := 18) (d := (some 29)) (by kernel_rfl) rfl rfl (by kernel_rfl) (fun Kq hKq => ?_)
        refine step_apd 24 46 _ 4 40 Tryd.underlying24 infoP rfl (by omega) _ _ (by rfl) (by rfl) w.heap.size _ xs.length _ (by rfl) Hra.out #[.string Z, .int .i64 mn, .int .i64 1, .int .i64 xs.length] 1 1 (by rw [Hsz1.out]; rfl) (by rfl) Hon.out hmx hby Hsa.out ?_; intro v9 w9 hown9 hg9
        obtain ⟨zs, hzl, hze, hd9⟩ := Hsn.out v9 w9 hown9 hg9
        have Hg9 := Lib.hid (goodEq hze Hgs.out)
        clear hze
        obtain ⟨b9, cp9, rfl⟩ := hd9.nn
        have HD9 := Lib.hid hd9
        have Hzl := Lib.hid hzl
        clear hown9 hg9 hd9 hzl
        refine hKq.out _ _ ?_
        clear hKq Kq
        simp only [Act.put, List.setIfInBounds_toArray]
        refine late_L (i := 19) (d := (some 3)) (by kernel_rfl) rfl rfl (by kernel_rfl) (fun Kq hKq => ?_)
        go_simp
        refine hKq.out _ _ ?_
        clear hKq Kq
        refine done_L (by kernel_rfl) ?_ _
        refine NoPanic.normal ?_
        go_wp2_with fail
        go_roundw
        case rel => exact ⟨zs, by have := Hzl.out; omega, by rw [Hzl.out]; first | rfl | (congr 1; omega), Hg9.out, HD9.out⟩
        case measure => first | (simp [intOf]; done) | (simp [intOf]; omega)
    · have e0 : xs.length = M := by omega
      have hlt' : ¬ ((xs.length : Int) < (M : Int)) := by omega
      have Hz := Lib.hid (show RetWc M w (.returned (.slice (some ⟨b0, 0, none⟩) xs.length c0)) wr from ⟨_, xs, rfl, e0, hgd, hd⟩)
      clear hd e0
      go_wp2_with fail
      go_ret
      exact Hz.out
end Go.Proofs.YtepgfcjfdnakbaaDoor
/- Inventories, part 31: l21Bent (gen_pc31.py). -/
namespace Go.Proofs.YtepgfcjfdnakbaaDoor
open Go.RowKit Go.Joins

theorem flat_setF {α β : Type} (F : α → List β) (s : Nat) (hF : ∀ x, (F x).length = s) (f : Nat) (hf : f < s) (x' : α) (u : β) : ∀ (xs : List α) (i : Nat) (hi : i < xs.length), F x' = (F xs[i]).set f u → (xs.flatMap F).set (i * s + f) u = (xs.set i x').flatMap F
  | [], i, hi, _ => by simp at hi
  | x :: xs, 0, hi, h => by
    have h' : F x' = (F x).set f u := h
    rw [List.set_cons_zero, List.flatMap_cons, List.flatMap_cons, h', Nat.zero_mul, Nat.zero_add, List.set_append_left _ _ (by rw [hF]; exact hf)]
  | x :: xs, i + 1, hi, h => by
    have h' : F x' = (F (xs[i]'(by simpa using hi))).set f u := h
    rw [List.set_cons_succ, List.flatMap_cons, List.flatMap_cons, List.set_append_right _ _ (by rw [hF, Nat.succ_mul]; omega), hF,
      show (i + 1) * s + f - s = i * s + f by rw [Nat.succ_mul]; omega, flat_setF F s hF f hf x' u xs i (by simpa using hi) h']
theorem DrC.cellsAt {W w : World} {B g k b c : Nat} {bs : List UInt8} {xs : List Pc} (h : DrC W w B g k bs (.slice (some ⟨b, 0, none⟩) xs.length c) xs) (i : Nat) (hi : i < xs.length) :
    (w.cell? ⟨b, i * 4, none⟩ = some (.string xs[i].name) ∧ w.cell? ⟨b, i * 4 + 1, none⟩ = some (.int .i64 xs[i].par) ∧ w.cell? ⟨b, i * 4 + 2, none⟩ = some (.int .i64 xs[i].each) ∧ w.cell? ⟨b, i * 4 + 3, none⟩ = some (.int .i64 xs[i].price)) ∧
    w.frozen? ⟨b, i * 4, none⟩ = false ∧ w.frozen? ⟨b, i * 4 + 1, none⟩ = false ∧ w.frozen? ⟨b, i * 4 + 2, none⟩ = false ∧ w.frozen? ⟨b, i * 4 + 3, none⟩ = false := by
  have hat : ∀ j u, j < 4 → (cellsP xs[i])[j]? = some u → w.cell? ⟨b, i * 4 + j, none⟩ = some u := fun j u hj hu =>
    (h.dr.row.cellAt (i * 4 + j) (by omega)).trans ((flat_at cellsP 4 (fun _ => rfl) xs i j hi hj).trans hu)
  exact ⟨⟨hat 0 _ (by omega) rfl, hat 1 _ (by omega) rfl, hat 2 _ (by omega) rfl, hat 3 _ (by omega) rfl⟩, h.dr.row.frozenAt _, h.dr.row.frozenAt _, h.dr.row.frozenAt _, h.dr.row.frozenAt _⟩
theorem DrC.put {W w : World} {B g k b c : Nat} {bs : List UInt8} {xs : List Pc} (h : DrC W w B g k bs (.slice (some ⟨b, 0, none⟩) xs.length c) xs) (i : Nat) (hi : i < xs.length) (f : Nat) (hf : f < 4) (u : Value) (x' : Pc) (hx : x'.name.size ≤ 16) (hu : cellsP x' = (cellsP xs[i]).set f u) :
    ∃ zs, zs.length = xs.length ∧ DrC W (w.setCell ⟨b, i * 4 + f, none⟩ u) B g k bs (.slice (some ⟨b, 0, none⟩) xs.length c) zs := by
  obtain ⟨h1, g1⟩ := h.dr.row.stored (i * 4 + f) u
  rw [flat_setF cellsP 4 (fun _ => rfl) f hf x' u xs i hi hu] at h1
  refine ⟨xs.set i x', List.length_set, ⟨h.dr.app (by rw [List.length_set]; exact h1) g1, by rw [List.length_set]; exact h.len, fun y hy => ?_, ⟨b, c, by rw [List.length_set]⟩⟩⟩
  rcases List.mem_or_eq_of_mem_set hy with hy | rfl
  · exact h.sm y hy
  · exact hx
theorem DrC.ofOw {W w w' : World} {B g k : Nat} {bs : List UInt8} {v : Value} {xs : List Pc} (hs : SrcAt w B g k bs) (hg : W.grownBy w (some g)) (hl : g < W.heap.size) (h : OwC w w' v xs) (hn : xs.length ≤ 62) : DrC W w' B g k bs v xs :=
  ⟨⟨hl, hs.below h.bel, ownsRow_le h.row hg.size, grown_below hg h.bel⟩, hn, h.sm, h.nn⟩
theorem RetDc.of {w w' : World} {B g k n : Nat} {bs : List UInt8} {v : Value} {xs : List Pc} (h : DrC w w' B g k bs v xs) (hk : k ≤ n) : RetDc w B g n bs (.returned v) w' := ⟨v, xs, rfl, h.more hk⟩
def bentL : List ByteArray := [⟨#[]⟩, ⟨#[68, 114, 117, 109]⟩, ⟨#[109, 97, 99, 104, 105, 110, 101]⟩]
theorem bentL_sz : ∀ z ∈ bentL, z.size ≤ 16 := by decide
set_option maxRecDepth 100000 in
set_option maxHeartbeats 3200000 in
theorem l21Bent_any (B g k : Nat) (bs : List UInt8) (w : World) (hs : SrcAt w B g k bs) (hk : k + 300 ≤ 4611686018427380000) :
    Calls Tryd.prog 59 #[.pointer (some ⟨g, 0, none⟩)] w (RetDc w B g (k + 120) bs) := by
  have H := Lib.hid hs
  have hlt := hs.lt
  clear hs
  go_enter Tryd.func59, Tryd.ntmps59
  go_wp2_with fail
  refine (one_any B g _ bs 24 _ H.out (by omega)).mono ?_; rintro e w2 ⟨y, rfl, hs2, hg2⟩
  have Hs2 := Lib.hid hs2
  have Hg2 := Lib.hid hg2
  clear hs2 hg2 H
  cases y with
  | true =>
    go_wp2_with fail
    refine (pick_any B g _ bs 2 _ Hs2.out (by omega)).mono ?_; rintro e w3 ⟨x, rfl, ⟨hx0, hx1, _⟩, hs3, hg3⟩
    have hx2 := hx1 (by omega)
    obtain ⟨M, hM⟩ : ∃ M : Nat, 40 + x = (M : Int) := ⟨(40 + x).toNat, by omega⟩
    have hM60 : M ≤ 60 := by omega
    have Hs3 := Lib.hid hs3
    have Hg3 := Lib.hid (grown_trans Hg2.out hg3)
    clear hs3 hg3 hx1
    go_wp2_with fail
    (try rw [hM])
    refine (l21Wide_any M w3 hM60).mono ?_; rintro e w4 ⟨v4, xs, rfl, hxl, _, ho⟩
    have Hz := Lib.hid (RetDc.of (n := k + 120) (DrC.ofOw Hs3.out Hg3.out hlt ho (by omega)) (by omega))
    clear ho
    go_wp2_with fail
    go_ret
    exact Hz.out
  | false =>
    go_wp2_with fail
    refine (l21Draw_any B g _ bs _ Hs2.out (by omega)).mono ?_; rintro e w3 ⟨v3, xs, rfl, hx1, hx10, _, hd3⟩
    have HD3 := Lib.hid (hd3.from Hg2.out hlt)
    obtain ⟨b0, c0, rfl⟩ := hd3.nn
    clear hd3 Hs2
    go_wp2_with fail
    refine (pick_any B g _ bs _ _ HD3.out.dr.src (by omega)).mono ?_; rintro e wp ⟨x, rfl, ⟨hx0, hx2, hx3⟩, hs4, hg4⟩
    obtain ⟨i, rfl⟩ : ∃ i : Nat, x = i := ⟨x.toNat, by omega⟩
    have hi : i < xs.length := by
      by_cases h1 : xs.length = 1
      · have := hx3 (by omega); omega
      · have := hx2 (by omega); omega
    have hi' : (i : Int) < (xs.length : Int) := by omega
    have HD4 := Lib.hid (HD3.out.draw hs4 hg4)
    clear hs4 hg4 hx2 hx3 HD3
    go_wp2_with fail
    refine (pick_any B g _ bs 24 _ HD4.out.dr.src (by omega)).mono ?_; rintro e wq ⟨x, rfl, ⟨hx0, hx2, hx3⟩, hs5, hg5⟩
    have HD := Lib.hid (HD4.out.draw hs5 hg5)
    clear hs5 hg5 hx2 hx3 HD4
    by_cases e0 : x = 0
    · subst e0
      go_wp2_with fail
      refine (text_new B g _ 3 bentL bs wq HD.out.dr.src (by omega) rfl (by omega) (by omega)).mono ?_; rintro e w6 ⟨z, hz, rfl, hs6, hg6⟩
      have hz16 := bentL_sz z hz
      clear hz
      have HE := Lib.hid (HD.out.draw hs6 hg6)
      obtain ⟨⟨p0, p1, p2, p3⟩, q0, q1, q2, q3⟩ := HE.out.cellsAt i hi
      obtain ⟨zs, hzl, hd7⟩ := HE.out.put i hi 0 (by omega) (.string z) ⟨z, xs[i].par, xs[i].each, xs[i].price⟩ hz16 rfl
      have Hz := Lib.hid (RetDc.of (n := k + 120) hd7 (by omega))
      clear hs6 hg6 hd7 HD HE hzl
      go_wp2_with fail
      go_ret
      exact Hz.out
    have hbq0 : (x == 0) = false := by simpa using e0
    by_cases e1 : x = 1
    · subst e1
      go_wp2_with fail
      refine (among_in B g _ 5 [-2, -1, 0, (i : Int), 9223372036854775807] bs wq HD.out.dr.src (by omega) rfl (by omega) (by omega)).mono ?_; rintro e w6 ⟨z, _, rfl, hs6, hg6⟩
      have HE := Lib.hid (HD.out.draw hs6 hg6)
      obtain ⟨⟨p0, p1, p2, p3⟩, q0, q1, q2, q3⟩ := HE.out.cellsAt i hi
      obtain ⟨zs, hzl, hd7⟩ := HE.out.put i hi 1 (by omega) (.int .i64 z) ⟨xs[i].name, z, xs[i].each, xs[i].price⟩ (HE.out.sm xs[i] (List.getElem_mem hi)) rfl
      have Hz := Lib.hid (RetDc.of (n := k + 120) hd7 (by omega))
      clear hs6 hg6 hd7 HD HE hzl
      go_wp2_with fail
      go_ret
      exact Hz.out
    have hbq1 : (x == 1) = false := by simpa using e1
    by_cases e2 : x = 2
    · subst e2
      go_wp2_with fail
      refine (among_in B g _ 5 [0, 1, 100, 101, -9223372036854775808] bs wq HD.out.dr.src (by omega) rfl (by omega) (by omega)).mono ?_; rintro e w6 ⟨z, _, rfl, hs6, hg6⟩
      have HE := Lib.hid (HD.out.draw hs6 hg6)
      obtain ⟨⟨p0, p1, p2, p3⟩, q0, q1, q2, q3⟩ := HE.out.cellsAt i hi
      obtain ⟨zs, hzl, hd7⟩ := HE.out.put i hi 2 (by omega) (.int .i64 z) ⟨xs[i].name, xs[i].par, z, xs[i].price⟩ (HE.out.sm xs[i] (List.getElem_mem hi)) rfl
      have Hz := Lib.hid (RetDc.of (n := k + 120) hd7 (by omega))
      clear hs6 hg6 hd7 HD HE hzl
      go_wp2_with fail
      go_ret
      exact Hz.out
    have hbq2 : (x == 2) = false := by simpa using e2
    by_cases e3 : x = 3
    · subst e3
      go_wp2_with fail
      refine (among_in B g _ 4 [-1, 0, 1000000, 1000001] bs wq HD.out.dr.src (by omega) rfl (by omega) (by omega)).mono ?_; rintro e w6 ⟨z, _, rfl, hs6, hg6⟩
      have HE := Lib.hid (HD.out.draw hs6 hg6)
      obtain ⟨⟨p0, p1, p2, p3⟩, q0, q1, q2, q3⟩ := HE.out.cellsAt i hi
      obtain ⟨zs, hzl, hd7⟩ := HE.out.put i hi 3 (by omega) (.int .i64 z) ⟨xs[i].name, xs[i].par, xs[i].each, z⟩ (HE.out.sm xs[i] (List.getElem_mem hi)) rfl
      have Hz := Lib.hid (RetDc.of (n := k + 120) hd7 (by omega))
      clear hs6 hg6 hd7 HD HE hzl
      go_wp2_with fail
      go_ret
      exact Hz.out
    have hbq3 : (x == 3) = false := by simpa using e3
    by_cases e4 : x = 4
    · subst e4
      have Hz := Lib.hid (RetDc.of (n := k + 120) (DrC.ofOw (xs := []) (v := .slice (some ⟨wq.heap.size, 0, none⟩) 0 0) HD.out.dr.src HD.out.dr.gr hlt ⟨World.ownsRow_made (base := wq.heap.size) (e := 46) (size := 4) wq #[] 0 (Nat.le_refl _) (by simp [maxLen]) rfl, (Below.refl _ _).alloc (Nat.le_refl _) _, fun x hx => (by cases hx), _, _, rfl⟩ (by simp)) (by omega))
      clear HD
      go_wp2_with fail
      go_ret
      exact Hz.out
    have hbq4 : (x == 4) = false := by simpa using e4
    by_cases e5 : x = 5
    · subst e5
      clear hx1
      obtain ⟨L, hL⟩ : ∃ L, xs.length = L := ⟨_, rfl⟩
      rw [hL] at HD hi hi' hx10 ⊢
      go_wp2_with fail
      go_loopw [64] (fun o wr => ∃ (m : Nat) (zs : List Pc), m ≤ L ∧ zs.length = L ∧ o = .int .i64 (m : Int) ∧ DrC w wr B g (k + 2 + 82 + 2 + 2) bs (.slice (some ⟨b0, 0, none⟩) L c0) zs) (fun o _ => L - (intOf o).toNat)
      case atStart => exact ⟨0, xs, Nat.zero_le _, hL, rfl, HD.out⟩
      case round =>
        obtain ⟨m, zs, hm, hzl, rfl, hd⟩ := hrel
        clear HD
        by_cases hlm : m < L
        · have hlm' : (m : Int) < (L : Int) := by omega
          have hmz : m < zs.length := by omega
          rw [← hzl] at hd
          obtain ⟨⟨p0, p1, p2, p3⟩, q0, q1, q2, q3⟩ := hd.cellsAt m hmz
          obtain ⟨ys, hyl, hd7⟩ := hd.put m hmz 2 (by omega) (.int .i64 100) ⟨zs[m].name, zs[m].par, 100, zs[m].price⟩ (hd.sm zs[m] (List.getElem_mem hmz)) rfl
          rw [hzl] at hd7 hyl
          have HE := Lib.hid hd7
          have Hyl := Lib.hid hyl
          have Hzl := Lib.hid hzl
          clear hd hd7 hyl hL hzl
          go_wp2_with fail
          go_roundw
          case rel => exact ⟨m + 1, ys, by omega, Hyl.out, by go_num, HE.out⟩
          case measure => first | (simp [intOf]; done) | (simp [intOf]; omega)
        · obtain rfl : m = L := by omega
          have hlm' : ¬ ((m : Int) < (m : Int)) := by omega
          have Hz := Lib.hid (RetDc.of (n := k + 120) (show DrC w wr B g (k + 2 + 82 + 2 + 2) bs (.slice (some ⟨b0, 0, none⟩) m c0) zs from hd) (by omega))
          clear hd hL hzl
          go_wp2_with fail
          go_ret
          exact Hz.out
    have hbq5 : (x == 5) = false := by simpa using e5
    have Hz := Lib.hid (RetDc.of (n := k + 120) HD.out (by omega))
    go_wp2_with fail
    go_ret
    exact Hz.out
end Go.Proofs.YtepgfcjfdnakbaaDoor
/- Inventories, part 32: l21At, l21Stocks (gen_pc32.py). -/
namespace Go.Proofs.YtepgfcjfdnakbaaDoor
open Go.RowKit Go.Joins

def RetLa (w : World) (B g k : Nat) (bs : List UInt8) (e : Ending) (w' : World) : Prop := ∃ v xs, ∃ z : Int, e = .returned (.tuple #[v, .int .i64 z]) ∧ DrC w w' B g k bs v xs
set_option maxRecDepth 100000 in
set_option maxHeartbeats 1600000 in
theorem l21At_any (B g k : Nat) (bs : List UInt8) (w : World) (hs : SrcAt w B g k bs) (hk : k + 400 ≤ 4611686018427380000) :
    Calls Tryd.prog 51 #[.pointer (some ⟨g, 0, none⟩)] w (RetLa w B g (k + 130) bs) := by
  have H := Lib.hid hs
  clear hs
  go_enter Tryd.func51, Tryd.ntmps51
  go_wp2_with fail
  refine (l21Bent_any B g _ bs _ H.out (by omega)).mono ?_; rintro e w1 ⟨v, xs, rfl, hd1⟩
  obtain ⟨b0, c0, rfl⟩ := hd1.nn
  have HD1 := Lib.hid hd1
  have hl := hd1.len
  clear hd1 H
  have hwl : IntKind.i64.wrap ((xs.length : Int) + 1) = (xs.length : Int) + 1 := IntWalk.i64_in _ (by omega)
  go_wp2_with fail
  refine (pick_any B g _ bs _ _ HD1.out.dr.src (by omega)).mono ?_; rintro e w2 ⟨x, rfl, ⟨hx0, hx1, hx2⟩, hs2, hg2⟩
  have hxb : x ≤ 62 := by
    by_cases h0 : xs.length = 0
    · have := hx2 (by omega); omega
    · have := hx1 (by omega); omega
  have HD2 := Lib.hid (HD1.out.draw hs2 hg2)
  clear hs2 hg2 hx1 hx2 HD1 hwl
  go_wp2_with fail
  refine (pick_any B g _ bs 16 _ HD2.out.dr.src (by omega)).mono ?_; rintro e w3 ⟨y, rfl, ⟨hy0, hy1, _⟩, hs3, hg3⟩
  have hyb := hy1 (by omega)
  have HD3 := Lib.hid (HD2.out.draw hs3 hg3)
  obtain ⟨q, hq⟩ : ∃ q, y / 15 = q := ⟨_, rfl⟩
  have hqb : 0 ≤ q ∧ q ≤ 1 := by omega
  have hwq : IntKind.i64.wrap q = q := IntWalk.i64_in _ (by omega)
  have hws : IntKind.i64.wrap (x - q) = x - q := IntWalk.i64_in _ (by omega)
  clear hs3 hg3 hy1 HD2
  have Hz := Lib.hid (show RetLa w B g (k + 130) bs (.returned (.tuple #[.slice (some ⟨b0, 0, none⟩) xs.length c0, .int .i64 (x - q)])) w3 from ⟨_, xs, _, rfl, HD3.out.more (by omega)⟩)
  go_wp2_with fail
  go_ret2
  (try rw [hq, hwq, hws])
  exact Hz.out

theorem tab_snocP (n : Nat) (f : Nat → Int) (y : Int) : tab n f ++ (#[Value.int .i64 y] : Array Value).toList = tab (n + 1) (put f n y) := by
  rw [tab_succ]
  congr 1
  · exact tab_congr fun i hi => by unfold put; rw [if_neg (by omega)]
  · unfold put; rw [if_pos rfl]
theorem own_keptA {w w' : World} {b1 b2 s1 s2 n1 n2 : Nat} {e1 e2 : TypeId} {v1 v2 : Value} {x1 x2 : List Value} (h1 : w.ownsRow b1 e1 s1 v1 n1 x1) (h2 : w.ownsRow b2 e2 s2 v2 n2 x2) (he : e1 ≠ e2) (hg : w.grownBy w' v2.ownBlock) : w'.ownsRow b1 e1 s1 v1 n1 x1 :=
  h1.kept hg (apart_p h1 h2 he)
/-- a drawn list of pieces and a drawn stock -/
structure DrS (W w : World) (B g k : Nat) (bs : List UInt8) (v : Value) (xs : List Pc) (vs : Value) (n : Nat) (f : Nat → Int) : Prop extends DrC W w B g k bs v xs where
  st : DrR W w B g k bs 2 1 vs n (tab n f)
theorem DrS.draw {W w w' : World} {B g k k' n : Nat} {bs : List UInt8} {v vs : Value} {xs : List Pc} {f : Nat → Int} (h : DrS W w B g k bs v xs vs n f) (hs : SrcAt w' B g k' bs) (hg : w.grownBy w' (some g)) : DrS W w' B g k' bs v xs vs n f := ⟨h.toDrC.draw hs hg, h.st.draw hs hg⟩
theorem DrS.more {W w : World} {B g k k' n : Nat} {bs : List UInt8} {v vs : Value} {xs : List Pc} {f : Nat → Int} (h : DrS W w B g k bs v xs vs n f) (hk : k ≤ k') : DrS W w B g k' bs v xs vs n f := ⟨h.toDrC.more hk, h.st.more hk⟩
theorem DrS.app {W w w' : World} {B g k n n' : Nat} {bs : List UInt8} {v vs vs' : Value} {xs : List Pc} {f f' : Nat → Int} (h : DrS W w B g k bs v xs vs n f) (hr : w'.ownsRow W.heap.size 2 1 vs' n' (tab n' f')) (hg : w.grownBy w' vs.ownBlock) : DrS W w' B g k bs v xs vs' n' f' := by
  have h2 := h.st.app hr hg
  exact ⟨⟨⟨h2.lt, h2.src, own_keptA h.dr.row h.st.row (by decide) hg, h2.gr⟩, h.len, h.sm, h.nn⟩, h2⟩
theorem DrS.snoc {W w w' : World} {B g k n : Nat} {bs : List UInt8} {v vs vs' : Value} {xs : List Pc} {f : Nat → Int} (h : DrS W w B g k bs v xs vs n f) (y : Int) (hr : w'.ownsRow W.heap.size 2 1 vs' (n + 1) (tab n f ++ (#[Value.int .i64 y] : Array Value).toList)) (hg : w.grownBy w' vs.ownBlock) : DrS W w' B g k bs v xs vs' (n + 1) (put f n y) :=
  h.app (by rw [← tab_snocP]; exact hr) hg
theorem DrS.put {W w : World} {B g k n b c : Nat} {bs : List UInt8} {v : Value} {xs : List Pc} {f : Nat → Int} (h : DrS W w B g k bs v xs (.slice (some ⟨b, 0, none⟩) n c) n f) (i : Nat) (y : Int) : DrS W (w.setCell ⟨b, i, none⟩ (.int .i64 y)) B g k bs v xs (.slice (some ⟨b, 0, none⟩) n c) n (put f i y) := by
  obtain ⟨h1, g1⟩ := h.st.row.stored i (.int .i64 y)
  rw [tab_set] at h1
  exact h.app h1 g1
def RetLs (w : World) (B g k : Nat) (bs : List UInt8) (e : Ending) (w' : World) : Prop := ∃ v xs vs n f, e = .returned (.tuple #[v, vs]) ∧ n ≤ 70 ∧ DrS w w' B g k bs v xs vs n f
end Go.Proofs.YtepgfcjfdnakbaaDoor
/- Inventories, part 33: what the law FnStocks draws (gen_pc33.py). -/
namespace Go.Proofs.YtepgfcjfdnakbaaDoor
open Go.RowKit Go.Joins

theorem below_srcP {W w1 w : World} {g : Nat} (h : Below W.heap.size W w1) (hg : w1.grownBy w (some g)) (hl : W.heap.size ≤ g) : Below W.heap.size W w :=
  h.grown hg h.size (fun x hx => by cases hx; exact hl)
/-- a drawn list of pieces, seen by its caller -/
structure NwC (w w' : World) (v : Value) (xs : List Pc) : Prop where
  row : w'.ownsRow w.heap.size 46 4 v xs.length (xs.flatMap cellsP)
  len : xs.length ≤ 62
  sm : ∀ x ∈ xs, x.name.size ≤ 16
  nn : ∃ b c, v = .slice (some ⟨b, 0, none⟩) xs.length c
  bel : Below w.heap.size w w'
theorem NwC.of {w w1 w' : World} {B g k : Nat} {bs : List UInt8} {v : Value} {xs : List Pc} (h : DrC w1 w' B g k bs v xs) (hb : Below w.heap.size w w1) (hg : w.heap.size ≤ g) : NwC w w' v xs :=
  ⟨ownsRow_le h.dr.row hb.size, h.len, h.sm, h.nn, below_srcP hb h.dr.gr hg⟩
theorem NwC.sz {w w' : World} {v : Value} {xs : List Pc} (h : NwC w w' v xs) : szP xs := fun i hi => by
  rw [pg_at hi]
  exact Nat.le_trans (h.sm _ (List.getElem_mem hi)) (by omega)
def RetDk (w : World) (e : Ending) (w' : World) : Prop := ∃ v xs, ∃ z : Int, e = .returned (.tuple #[v, .int .i64 z]) ∧ NwC w w' v xs
def RetDm2 (w : World) (e : Ending) (w' : World) : Prop := ∃ v xs vs n f, e = .returned (.tuple #[v, vs]) ∧ n ≤ 70 ∧ NwC w w' v xs ∧ w'.ownsRow w.heap.size 2 1 vs n (tab n f)
def RetDm3 (w : World) (e : Ending) (w' : World) : Prop := ∃ v xs vs n f, ∃ z : Int, e = .returned (.tuple #[v, vs, .int .i64 z]) ∧ n ≤ 70 ∧ NwC w w' v xs ∧ w'.ownsRow w.heap.size 2 1 vs n (tab n f)
set_option maxRecDepth 100000 in
set_option maxHeartbeats 1600000 in
theorem drawTO_any (B : Nat) (cv : Value) (bs : List UInt8) (w : World) (h : Rd w B cv bs.length 1 (bs.map byV)) (hB : B ≤ w.heap.size) : Calls Tryd.prog 6 #[cv] w (RetDk w) := by
  have HF := Lib.hid (l00From_any B cv bs w h hB)
  obtain ⟨_, A, c, rfl, _⟩ := h
  go_enter Tryd.func6, Tryd.ntmps6
  go_wp2_with fail
  refine HF.out.mono ?_; rintro e w1 ⟨rfl, hs1, hb1, hl1⟩
  have Hb1 := Lib.hid hb1
  have HL := Lib.hid (l21At_any B _ 0 bs w1 hs1 (by omega))
  clear hs1 hb1 HF
  go_wp2_with fail
  refine HL.out.mono ?_; rintro e w2 ⟨v, xs, z, rfl, hd⟩
  obtain ⟨b0, c0, rfl⟩ := hd.nn
  have Hz := Lib.hid (show RetDk w (.returned (.tuple #[.slice (some ⟨b0, 0, none⟩) xs.length c0, .int .i64 z])) w2 from ⟨_, xs, _, rfl, NwC.of hd Hb1.out (Nat.le_refl _)⟩)
  clear hd HL
  go_wp2_with fail
  go_ret2
  exact Hz.out
end Go.Proofs.YtepgfcjfdnakbaaDoor
/- Inventories, texts, part 9: what the law FnPieces draws (gen_pq9.py). -/
namespace Go.Proofs.YtepgfcjfdnakbaaDoor
open Go.RowKit Go.Joins

theorem below_srcQ {W w1 w : World} {g : Nat} (h : Below W.heap.size W w1) (hg : w1.grownBy w (some g)) (hl : W.heap.size ≤ g) : Below W.heap.size W w :=
  h.grown hg h.size (fun x hx => by cases hx; exact hl)
theorem lineP_small {xs : List Pc} {n : Nat} (hs : Shp xs n) (hn : n ≤ xs.length) (hz : ∀ x ∈ xs, x.name.size ≤ 16) (hm : NmOk xs n) {k : Nat} (hk : k < n) : (lineP xs k).size ≤ 80 := by
  obtain ⟨h1, h2⟩ := hm k hk
  have hz' : ∀ i, i < xs.length → (pg xs i).name.size ≤ 16 := fun i hi => by rw [pg_at hi]; exact hz _ (List.getElem_mem hi)
  have hof : (ofP xs k).size ≤ 16 := by
    have hp := hs.par_in hk
    unfold ofP
    split
    · show 1 ≤ 16; omega
    · exact hz' _ (by omega)
  have a := hz' k (by omega)
  have c := decS_size (pg xs k).each (by omega) (by omega)
  have d := decS_size (pg xs k).price (by omega) (by omega)
  have := (lineP_sizes (a := (pg xs k).name) (o := ofP xs k) (by omega) (by omega) c d).2.2.2.2.2.2
  unfold lineP bodyP
  rw [this]
  omega
theorem textP_small {xs : List Pc} {n : Nat} (hs : Shp xs n) (hn : n ≤ xs.length) (hz : ∀ x ∈ xs, x.name.size ≤ 16) (hm : NmOk xs n) : ∀ k, k ≤ n → (textP xs k).size ≤ k * 80
  | 0, _ => Nat.le_refl _
  | k + 1, hk => by
    show (textP xs k ++ lineP xs k).size ≤ _
    rw [ByteArray.size_append]
    have h1 := textP_small hs hn hz hm k (by omega)
    have h2 := lineP_small hs hn hz hm (show k < n by omega)
    omega
def RetDp (w : World) (e : Ending) (w' : World) : Prop := ∃ v xs, e = .returned v ∧ NwC w w' v xs
set_option maxRecDepth 100000 in
set_option maxHeartbeats 1600000 in
theorem drawPT_any (B : Nat) (cv : Value) (bs : List UInt8) (w : World) (h : Rd w B cv bs.length 1 (bs.map byV)) (hB : B ≤ w.heap.size) : Calls Tryd.prog 13 #[cv] w (RetDp w) := by
  have HF := Lib.hid (l00From_any B cv bs w h hB)
  obtain ⟨_, A, c, rfl, _⟩ := h
  go_enter Tryd.func13, Tryd.ntmps13
  go_wp2_with fail
  refine HF.out.mono ?_; rintro e w1 ⟨rfl, hs1, hb1, hl1⟩
  have Hb1 := Lib.hid hb1
  have HL := Lib.hid (l21Bent_any B _ 0 bs w1 hs1 (by omega))
  clear hs1 hb1 HF
  go_wp2_with fail
  refine HL.out.mono ?_; rintro e w2 ⟨v, xs, rfl, hd⟩
  obtain ⟨b0, c0, rfl⟩ := hd.nn
  have Hz := Lib.hid (show RetDp w (.returned (.slice (some ⟨b0, 0, none⟩) xs.length c0)) w2 from ⟨_, xs, rfl, NwC.of hd Hb1.out (Nat.le_refl _)⟩)
  clear hd HL
  go_wp2_with fail
  go_ret
  exact Hz.out
def nmL : List ByteArray := [⟨#[119, 104, 101, 101, 108]⟩, ⟨#[97, 120, 108, 101]⟩, ⟨#[98, 101, 108, 108]⟩, ⟨#[109, 97, 99, 104, 105, 110, 101]⟩, ⟨#[110, 117, 116]⟩]
def RetDn (w : World) (e : Ending) (w' : World) : Prop := ∃ v xs, ∃ s : ByteArray, e = .returned (.tuple #[v, .string s]) ∧ NwC w w' v xs
set_option maxRecDepth 100000 in
set_option maxHeartbeats 1600000 in
theorem drawPN_any (B : Nat) (cv : Value) (bs : List UInt8) (w : World) (h : Rd w B cv bs.length 1 (bs.map byV)) (hB : B ≤ w.heap.size) : Calls Tryd.prog 18 #[cv] w (RetDn w) := by
  have HF := Lib.hid (l00From_any B cv bs w h hB)
  obtain ⟨_, A, c, rfl, _⟩ := h
  go_enter Tryd.func18, Tryd.ntmps18
  go_wp2_with fail
  refine HF.out.mono ?_; rintro e w1 ⟨rfl, hs1, hb1, hl1⟩
  have Hb1 := Lib.hid hb1
  have HL := Lib.hid (l21Bent_any B _ 0 bs w1 hs1 (by omega))
  clear hs1 hb1 HF
  go_wp2_with fail
  refine HL.out.mono ?_; rintro e w2 ⟨v, xs, rfl, hd⟩
  obtain ⟨b0, c0, rfl⟩ := hd.nn
  have HD := Lib.hid hd
  clear hd HL
  go_wp2_with fail
  refine (text_new B _ _ 5 nmL bs w2 HD.out.dr.src (by omega) rfl (by omega) (by omega)).mono ?_; rintro e w3 ⟨z, _, rfl, hs3, hg3⟩
  have Hz := Lib.hid (show RetDn w (.returned (.tuple #[.slice (some ⟨b0, 0, none⟩) xs.length c0, .string z])) w3 from ⟨_, xs, _, rfl, NwC.of (HD.out.draw hs3 hg3) Hb1.out (Nat.le_refl _)⟩)
  clear hs3 hg3 HD
  go_wp2_with fail
  go_ret2
  exact Hz.out
def RetDt (w : World) (e : Ending) (w' : World) : Prop := ∃ s : ByteArray, e = .returned (.string s) ∧ s.size ≤ 100000 ∧ Below w.heap.size w w'
set_option maxRecDepth 100000 in
set_option maxHeartbeats 3200000 in
theorem drawRP_any (B : Nat) (cv : Value) (bs : List UInt8) (w : World) (h : Rd w B cv bs.length 1 (bs.map byV)) (hB : B ≤ w.heap.size) : Calls Tryd.prog 16 #[cv] w (RetDt w) := by
  have HF := Lib.hid (l00From_any B cv bs w h hB)
  obtain ⟨_, A, c, rfl, _⟩ := h
  go_enter Tryd.func16, Tryd.ntmps16
  go_wp2_with fail
  refine HF.out.mono ?_; rintro e w1 ⟨rfl, hs1, hb1, hl1⟩
  have Hs1 := Lib.hid hs1
  have Hb1 := Lib.hid hb1
  clear hs1 hb1 HF
  go_wp2_with fail
  refine (l21Draw_any B _ 0 bs _ Hs1.out (by omega)).mono ?_; rintro e w2 ⟨v2, xs, rfl, _, hx10, hgd, hd2⟩
  obtain ⟨b0, c0, rfl⟩ := hd2.nn
  have HD2 := Lib.hid hd2
  have HT := Lib.hid (l21Text_any w2.heap.size _ xs w2 hd2.rd (Nat.le_refl _) (by omega) hd2.sz hgd)
  have hts := textP_small hgd.shp (Nat.le_refl _) hd2.sm hgd.nm xs.length (Nat.le_refl _)
  generalize textP xs xs.length = t at *
  clear hd2 hgd Hs1
  go_wp2_with fail
  refine HT.out.mono ?_; rintro e w3 ⟨rfl, hb3⟩
  have HD3 := Lib.hid (HD2.out.below hb3)
  clear hb3 HD2 HT
  go_wp2_with fail
  refine (one_any B _ _ bs 3 _ HD3.out.dr.src (by omega)).mono ?_; rintro e w4 ⟨y, rfl, hs4, hg4⟩
  have HD4 := Lib.hid (HD3.out.draw hs4 hg4)
  clear hs4 hg4 HD3
  cases y with
  | true =>
    go_wp2_with fail
    refine (spoil_any B _ _ bs t _ HD4.out.dr.src (by omega) (by omega)).mono ?_; rintro e w5 ⟨z, rfl, hz, hs5, hg5⟩
    have HD5 := Lib.hid (HD4.out.draw hs5 hg5)
    clear hs5 hg5 HD4
    go_wp2_with fail
    go_ret
    exact ⟨z, rfl, by omega, below_srcQ Hb1.out HD5.out.dr.gr (Nat.le_refl _)⟩
  | false =>
    go_wp2_with fail
    refine (one_any B _ _ bs 24 _ HD4.out.dr.src (by omega)).mono ?_; rintro e w5 ⟨y, rfl, hs5, hg5⟩
    have HD5 := Lib.hid (HD4.out.draw hs5 hg5)
    clear hs5 hg5 HD4
    cases y with
    | false =>
      go_wp2_with fail
      go_ret
      exact ⟨t, rfl, by omega, below_srcQ Hb1.out HD5.out.dr.gr (Nat.le_refl _)⟩
    | true =>
      go_wp2_with fail
      refine (pick_any B _ _ bs 2 _ HD5.out.dr.src (by omega)).mono ?_; rintro e w6 ⟨x, rfl, ⟨hx0, hx1, _⟩, hs6, hg6⟩
      have hx2 := hx1 (by omega)
      obtain ⟨M, hM⟩ : ∃ M : Nat, 40 + x = (M : Int) := ⟨(40 + x).toNat, by omega⟩
      have hM60 : M ≤ 60 := by omega
      have HD6 := Lib.hid (HD5.out.draw hs6 hg6)
      clear hs6 hg6 hx1 HD5
      go_wp2_with fail
      (try rw [hM])
      refine (l21Wide_any M w6 hM60).mono ?_; rintro e w7 ⟨v7, ys, rfl, hyl, hgd, ho⟩
      have Hb7 := Lib.hid ((below_srcQ Hb1.out HD6.out.dr.gr (Nat.le_refl _)).trans (ho.bel.mono (below_srcQ Hb1.out HD6.out.dr.gr (Nat.le_refl _)).size))
      have HT := Lib.hid (l21Text_any w7.heap.size v7 ys w7 (Rd.of_own ho.row) (Nat.le_refl _) (by omega) (fun i hi => by rw [pg_at hi]; exact Nat.le_trans (ho.sm _ (List.getElem_mem hi)) (by omega)) hgd)
      have hts2 := textP_small hgd.shp (Nat.le_refl _) ho.sm hgd.nm ys.length (Nat.le_refl _)
      have hy60 : ys.length * 80 ≤ 4800 := by omega
      obtain ⟨b7, c7, rfl⟩ := ho.nn
      clear hyl
      generalize textP ys ys.length = t2 at *
      clear ho hgd HD6
      go_wp2_with fail
      refine HT.out.mono ?_; rintro e w8 ⟨rfl, hb8⟩
      have Hb8 := Lib.hid (Hb7.out.trans (hb8.mono Hb7.out.size))
      clear hb8 HT
      go_wp2_with fail
      go_ret
      exact ⟨t2, rfl, by omega, Hb8.out⟩
def RetDs (w : World) (e : Ending) (w' : World) : Prop := ∃ v1 v2 l1 l2, e = .returned (.tuple #[v1, v2]) ∧ RdP w' w'.heap.size v1 l1 ∧ RdP w' w'.heap.size v2 l2 ∧ l1.length ≤ 70 ∧ l2.length ≤ 70 ∧ Below w.heap.size w w'
theorem own_cells0P {w : World} {base b n c sz : Nat} {e : TypeId} {cs : List Value} (h : w.ownsRow base e sz (.slice (some ⟨b, 0, none⟩) n c) n cs) : ∀ (i : Nat) (u : Value), cs[i]? = some u → w.cell? ⟨b, 0 + i, none⟩ = some u := fun i u hu => by
  have hc := h.cells (g := b) rfl i u hu
  have e0 : (⟨b, 0, none⟩ : Addr).add i = ⟨b, 0 + i, none⟩ := by unfold Addr.add; split <;> simp_all
  rwa [e0] at hc
theorem cellsP_one (l : List Pc) : ∀ u ∈ l.flatMap cellsP, u.oneCell' = true := by
  intro u hu
  obtain ⟨x, _, hx⟩ := List.mem_flatMap.1 hu
  simp [cellsP] at hx
  rcases hx with rfl | rfl | rfl | rfl <;> rfl
theorem rd_tail {w : World} {B b c c' : Nat} {xs : List Pc} (h : RdP w B (.slice (some ⟨b, 0, none⟩) xs.length c) xs) (hn : 0 < xs.length) : RdP w B (.slice (some ⟨b, 4, none⟩) (xs.length - 1) c') (xs.drop 1) := by
  obtain ⟨_, A0, c0, hv, hc⟩ := h
  injection hv with e1 e2 e3
  subst e1
  obtain ⟨b', off, hA, hb, hcc⟩ := hc (by omega)
  obtain ⟨rfl, rfl⟩ := adr_inj hA
  have hl : (xs.drop 1).length = xs.length - 1 := by simp
  refine ⟨?_, some ⟨b, 4, none⟩, c', by rw [hl], fun _ => ⟨b, 4, rfl, hb, fun i u hu => ?_⟩⟩
  · exact flat_len cellsP 4 (fun _ => rfl) (xs.drop 1)
  · obtain ⟨x, l, rfl⟩ : ∃ x l, xs = x :: l := by
      cases xs with
      | nil => simp at hn
      | cons x l => exact ⟨x, l, rfl⟩
    have h2 := hcc (4 + i) u (by rw [List.flatMap_cons, List.getElem?_append_right (by show 4 ≤ 4 + i; omega)]; show (l.flatMap cellsP)[4 + i - 4]? = some u; rw [Nat.add_sub_cancel_left]; exact hu)
    rwa [Nat.zero_add] at h2
theorem rd_none {w : World} {B : Nat} {A : Option Addr} {c : Nat} : RdP w B (.slice A 0 c) [] := ⟨rfl, A, c, rfl, fun h => absurd h (by simp)⟩
set_option maxRecDepth 100000 in
set_option maxHeartbeats 3200000 in
theorem drawSP_any (B : Nat) (cv : Value) (bs : List UInt8) (w : World) (h : Rd w B cv bs.length 1 (bs.map byV)) (hB : B ≤ w.heap.size) : Calls Tryd.prog 21 #[cv] w (RetDs w) := by
  have HF := Lib.hid (l00From_any B cv bs w h hB)
  obtain ⟨_, A, c, rfl, _⟩ := h
  go_enter Tryd.func21, Tryd.ntmps21
  go_wp2_with fail
  refine HF.out.mono ?_; rintro e w1 ⟨rfl, hs1, hb1, hl1⟩
  have Hs1 := Lib.hid hs1
  have Hb1 := Lib.hid hb1
  clear hs1 HF
  go_wp2_with fail
  refine (l21Draw_any B _ 0 bs _ Hs1.out (by omega)).mono ?_; rintro e w2 ⟨v2, xs, rfl, hx1, hx10, hgd, hd2⟩
  obtain ⟨b2, c2, rfl⟩ := hd2.nn
  have HA := Lib.hid hd2
  have Hc2 := Lib.hid (own_cells0P hd2.dr.row)
  have HM := Lib.hid (DrR.made hd2.dr.src 46 4)
  have Hlt2 := Lib.hid (hd2.dr.row.lt b2 rfl)
  have Hfl := Lib.hid (show (xs.flatMap cellsP).length = xs.length * 4 from flat_len cellsP 4 (fun _ => rfl) xs)
  have hpb := (hgd.nm 0 (by omega)).2
  have Hsm := Lib.hid hd2.sm
  have hb2l := (hd2.dr.row.lt b2 rfl).2
  have hzz := Nat.le_trans hb1.size hd2.dr.gr.size
  clear hd2 Hs1 hgd hb1
  have Hcc := Lib.hid (fun (i : Nat) (u : Value) (hu : (xs.flatMap cellsP)[i]? = some u) => (((Below.refl w2.heap.size w2).alloc (Nat.le_refl _) (.cells #[] 46)).cell (p := ⟨b2, 0 + i, none⟩) Hlt2.out.2).trans (Hc2.out i u hu))
  go_wp2_with (at_builtin; refine wpList_apr 24 46 _ 4 40 Tryd.underlying24 infoP rfl (by omega) _ _ rfl rfl w2.heap.size _ 0 _ rfl HM.out.row b2 0 xs.length c2 (xs.flatMap cellsP) rfl Hfl.out Hcc.out (cellsP_one _) (by simp [maxLen]; omega) (by omega) HM.out.size ?_; intro v3 w3 hown3 hg3; rw [Nat.zero_add, List.nil_append] at hown3; have HR3 := Lib.hid (HM.out.app hown3 hg3); obtain ⟨b3, c3, hv3, hcap, _⟩ := own_posC hown3 (by omega); subst hv3; clear hown3 hg3 HM)
  have HD3 := Lib.hid (show DrC w2 w3 B w.heap.size _ bs (.slice (some ⟨b3, 0, none⟩) xs.length c3) xs from ⟨HR3.out, by omega, Hsm.out, _, _, rfl⟩)
  have Hm := Lib.hid hcap
  clear HR3 Hcc Hc2 Hlt2 Hfl
  refine (pick_any B _ _ bs 4 _ HD3.out.dr.src (by omega)).mono ?_; rintro e w4 ⟨x, rfl, _, hs4, hg4⟩
  have HD4 := Lib.hid (HD3.out.draw hs4 hg4)
  have hHA4 := HA.out.draw HD4.out.dr.src HD4.out.dr.gr
  have HA4 := Lib.hid hHA4
  have Hb4 := Lib.hid (below_srcQ Hb1.out HA4.out.dr.gr (Nat.le_refl _))
  clear hs4 hg4 HD3 HA hHA4
  have hx0' : (0 : Int) < (xs.length : Int) := by omega
  have hb3l := (HD4.out.dr.row.lt b3 rfl).1
  have hA4r := HA4.out.dr.row
  by_cases e0 : x = 0
  · subst e0
    obtain ⟨⟨p0, p1, p2, p3⟩, q0, q1, q2, q3⟩ := HD4.out.cellsAt 0 (by omega)
    have hpr : xs[0] = pg xs 0 := (pg_at (by omega)).symm
    have hwp : IntKind.i64.wrap (xs[0].price + 1) = xs[0].price + 1 := IntWalk.i64_in _ (by rw [hpr]; omega)
    obtain ⟨zs, hzl, hd7⟩ := HD4.out.put 0 (by omega) 3 (by omega) (.int .i64 (xs[0].price + 1)) ⟨xs[0].name, xs[0].par, xs[0].each, xs[0].price + 1⟩ (Hsm.out xs[0] (List.getElem_mem _)) rfl
    have hA5 := ownsRow_setCell_other hA4r (a := ⟨b3, 0 * 4 + 3, none⟩) (fun e => by injection e with e; have e2 : b2 = b3 := e; omega) (.int .i64 (xs[0].price + 1))
    have hb5 := Hb4.out.setCell (p := ⟨b3, 0 * 4 + 3, none⟩) (by show w.heap.size ≤ b3; omega) (.int .i64 (xs[0].price + 1))
    have hrz := hd7.rd
    have hrd : RdP (w4.setCell ⟨b3, 0 * 4 + 3, none⟩ (.int .i64 (xs[0].price + 1))) (w4.setCell ⟨b3, 0 * 4 + 3, none⟩ (.int .i64 (xs[0].price + 1))).heap.size (.slice (some ⟨b3, 0, none⟩) xs.length c3) zs := hrz
    have Hz := Lib.hid (show RetDs w (.returned (.tuple #[.slice (some ⟨b2, 0, none⟩) xs.length c2, .slice (some ⟨b3, 0, none⟩) xs.length c3])) (w4.setCell ⟨b3, 3, none⟩ (.int .i64 (xs[0].price + 1))) from ⟨_, _, xs, zs, rfl, Rd.of_own hA5, hrd, by omega, by omega, hb5⟩)
    clear hA5 hb5 hd7 hrz hrd hA4r HA4 HD4 hpr hzl p0 p1 p2 q0 q1 q2
    generalize xs[0].price = pr at *
    have p3' : w4.cell? ⟨b3, 3, none⟩ = some (.int .i64 pr) := p3
    have q3' : w4.frozen? ⟨b3, 3, none⟩ = false := q3
    clear p3 q3
    go_wp2_with fail
    go_ret2
    exact Hz.out
  have hq0 : (x == 0) = false := by simpa using e0
  have hA4d := Rd.of_own hA4r
  have hD4d := HD4.out.rd
  by_cases e1 : x = 1
  · subst e1
    by_cases hc1 : c3 = 1
    · have hl1 : xs.length = 1 := by omega
      have Hz := Lib.hid (fun A c => (show RetDs w (.returned (.tuple #[.slice (some ⟨b2, 0, none⟩) xs.length c2, .slice A 0 c])) w4 from ⟨_, _, xs, [], rfl, hA4d, rd_none, by omega, by simp, Hb4.out⟩))
      subst hc1
      have Hl1 := Lib.hid hl1
      have hcl : ((xs.length : Int) - 1) = 0 := by omega
      clear hA4r HA4 HD4 hA4d hD4d hl1
      go_wp2_with fail
      go_ret2
      exact Hz.out (some ⟨b3, 0, none⟩) 0
    · have Hz := Lib.hid (fun c' => (show RetDs w (.returned (.tuple #[.slice (some ⟨b2, 0, none⟩) xs.length c2, .slice (some ⟨b3, 4, none⟩) (xs.length - 1) c'])) w4 from ⟨_, _, xs, xs.drop 1, rfl, hA4d, rd_tail hD4d (by omega), by omega, by rw [List.length_drop]; omega, Hb4.out⟩))
      clear hA4r HA4 HD4 hA4d hD4d
      go_wp2_with fail
      trace_state
      go_ret2
      exact Hz.out _
  have hq1 : (x == 1) = false := by simpa using e1
  have Hz := Lib.hid (show RetDs w (.returned (.tuple #[.slice (some ⟨b2, 0, none⟩) xs.length c2, .slice (some ⟨b3, 0, none⟩) xs.length c3])) w4 from ⟨_, _, xs, xs, rfl, hA4d, hD4d, by omega, by omega, Hb4.out⟩)
  clear hA4r HA4 HD4 hA4d hD4d
  go_wp2_with fail
  go_ret2
  exact Hz.out
end Go.Proofs.YtepgfcjfdnakbaaDoor
/- Inventories, texts, part 10: the plain law of FnPieces. -/
namespace Go.Proofs.YtepgfcjfdnakbaaDoor

/-- the product of the numbers along a way -/
def prodE (xs : List Pc) (p : Nat) (l : List Nat) : Nat := l.foldl (fun p i => p * (pg xs i).each.toNat) p
theorem prodE_snoc (xs : List Pc) (p : Nat) (l : List Nat) (i : Nat) : prodE xs p (l ++ [i]) = prodE xs p l * (pg xs i).each.toNat := by
  unfold prodE
  rw [List.foldl_append]; rfl
theorem wayR_ind {xs : List Pc} {n : Nat} (h : Shp xs n) (Q : Int → Prop) (h0 : ∀ c, c < 0 → Q c) (h1 : ∀ k : Nat, k < n → Q (pg xs k).par → Q (k : Int)) : ∀ (d : Nat) (c : Int), c < (n : Int) → c < (d : Int) → Q c := by
  intro d
  induction d with
  | zero => intro c _ hd; exact h0 c (by omega)
  | succ d ih =>
    intro c hn hd
    by_cases hc : c < 0
    · exact h0 c hc
    · obtain ⟨k, rfl⟩ : ∃ k : Nat, c = (k : Int) := ⟨c.toNat, by omega⟩
      have hp := h.par_in (k := k) (by omega)
      exact h1 k (by omega) (ih _ (by omega) (by omega))
theorem wayR_prod {xs : List Pc} {n : Nat} (h : Shp xs n) {c : Int} (hc : c < (n : Int)) : ∀ p, prodE xs p (wayR xs c) = p * upT xs c := by
  refine wayR_ind h (fun c => ∀ p, prodE xs p (wayR xs c) = p * upT xs c) (fun c hc p => ?_) (fun k hk ih p => ?_) n c hc hc
  · rw [wayR_neg hc]
    unfold upT
    rw [if_pos hc, Nat.mul_one]; rfl
  · rw [wayR_step h hk]
    show prodE xs (p * (pg xs k).each.toNat) (wayR xs (pg xs k).par) = _
    rw [ih, Nat.mul_assoc, ← upT_step h hk]
    unfold upT
    rw [if_neg (by omega), Int.toNat_natCast]
theorem wayR_lt {xs : List Pc} {n : Nat} (h : Shp xs n) {c : Int} (hc : c < (n : Int)) : ∀ i ∈ wayR xs c, (i : Int) ≤ c := by
  refine wayR_ind h (fun c => ∀ i ∈ wayR xs c, (i : Int) ≤ c) (fun c hc i hi => ?_) (fun k hk ih i hi => ?_) n c hc hc
  · rw [wayR_neg hc] at hi; cases hi
  · rw [wayR_step h hk] at hi
    rcases List.mem_cons.1 hi with rfl | hi
    · exact Int.le_refl _
    · have := ih i hi
      have := h.par_in hk
      omega
theorem prodE_ge {xs : List Pc} {n : Nat} (h : Shp xs n) : ∀ (l : List Nat) (p : Nat), (∀ i ∈ l, i < n) → p ≤ prodE xs p l := by
  intro l
  induction l with
  | nil => intro p _; exact Nat.le_refl _
  | cons i l ih =>
    intro p hl
    have he := h.each i (hl i (by simp))
    show p ≤ prodE xs (p * (pg xs i).each.toNat) l
    exact Nat.le_trans (Nat.le_mul_of_pos_right _ (by omega)) (ih _ (fun j hj => hl j (by simp [hj])))
/-- the facts of a piece's way -/
theorem path_facts {xs : List Pc} {n k : Nat} (h : Shp xs n) (hk : k < n) : (∀ i ∈ pathL xs k, i < n) ∧ prodE xs 1 (pathL xs k) = tot xs k ∧ (∀ j, prodE xs 1 ((pathL xs k).take j) ≤ tot xs k) ∧ ∃ l, pathL xs k = l ++ [0] := by
  have hlt : ∀ i ∈ pathL xs k, i < n := fun i hi => by
    rw [← wayR_path] at hi
    have := wayR_lt h (c := (k : Int)) (by omega) i hi
    omega
  have hp : prodE xs 1 (pathL xs k) = tot xs k := by
    rw [← wayR_path, wayR_prod h (by omega), Nat.one_mul]
    unfold upT
    rw [if_neg (by omega), Int.toNat_natCast]
  refine ⟨hlt, hp, fun j => ?_, ?_⟩
  · rw [← hp]
    have h1 := prodE_ge h ((pathL xs k).drop j) (prodE xs 1 ((pathL xs k).take j)) (fun i hi => hlt i (List.mem_of_mem_drop hi))
    have h2 : prodE xs (prodE xs 1 ((pathL xs k).take j)) ((pathL xs k).drop j) = prodE xs 1 (pathL xs k) := by
      unfold prodE
      rw [← List.foldl_append, List.take_append_drop]
    rw [h2] at h1
    exact h1
  · rw [← wayR_path]
    have := wayR_ind h (fun c => 0 ≤ c → ∃ l, wayR xs c = l ++ [0]) (fun c hc h0 => by omega) (fun k hk ih _ => by
      rw [wayR_step h hk]
      by_cases h0 : k = 0
      · subst h0
        rw [h.par0 hk, wayR_neg (by omega)]
        exact ⟨[], rfl⟩
      · have hpi := h.par k (by omega) hk
        obtain ⟨l, hl⟩ := ih hpi.1
        rw [hl]
        exact ⟨k :: l, rfl⟩) n (k : Int) (by omega) (by omega)
    exact this (by omega)
theorem under_way {xs : List Pc} {n k : Nat} (h : Shp xs n) (hk : k < n) : ∀ i, i < n → k ≤ i → und xs k i = true → k ∈ wayR xs (i : Int) := by
  intro i
  induction i using Nat.strongRecOn with
  | ind i ih =>
    intro hi hki hu
    rw [wayR_step h hi]
    by_cases e : i = k
    · subst e; simp
    · have hpi := h.par i (by omega) hi
      rw [und_step h (by omega) hi] at hu
      by_cases h2 : (pg xs i).par.toNat < k
      · rw [und_lt xs h2] at hu; cases hu
      · have h3 := ih (pg xs i).par.toNat (by omega) (by omega) (by omega) hu
        have e2 : (((pg xs i).par.toNat : Nat) : Int) = (pg xs i).par := by omega
        rw [e2] at h3
        exact List.mem_cons_of_mem _ h3
/-- a list of numbers as a table -/
theorem natV_tab (l : List Nat) : natV l = tab l.length (fun i => (l.getD i 0 : Int)) := by
  refine List.ext_getElem (by simp [natV, tab]) (fun i h1 h2 => ?_)
  have hi : i < l.length := by simpa [natV] using h1
  simp [natV, tab, List.getD_eq_getElem?_getD, List.getElem?_eq_getElem hi]
theorem natV_get {l : List Nat} {i : Nat} (h : i < l.length) : (natV l)[i]? = some (.int .i64 (l[i] : Int)) := by
  unfold natV
  rw [List.getElem?_map, List.getElem?_eq_getElem h]; rfl
/-- what the law says of a piece -/
theorem pieces_law {xs : List Pc} {k : Int} (h : cdP xs k = 0) : ∃ j : Nat, k = (j : Int) ∧ j < xs.length ∧ paC xs k = pathL xs j ∧ uC xs k = uL xs j xs.length ∧ toV xs k = (tot xs j : Int) ∧ tot xs j ≤ 1000000 ∧ Shp xs xs.length ∧ xs.length ≤ 40 ∧
    (∀ i : Nat, i < xs.length → cdP xs (i : Int) = 0 ∧ paC xs (i : Int) = pathL xs i) ∧ ∀ i ∈ uL xs j xs.length, i < xs.length ∧ j ∈ pathL xs i := by
  obtain ⟨hok, j, rfl, hj⟩ := cdP_ok h
  obtain ⟨⟨_, h40⟩, _, hs, ht⟩ := okP_ok hok
  have hcd : ∀ i : Nat, i < xs.length → cdP xs (i : Int) = 0 := fun i hi => cdP_yes hok (inB_iff.2 (by omega))
  refine ⟨j, rfl, hj, by unfold paC; rw [if_pos h, Int.toNat_natCast], by unfold uC; rw [if_pos h, Int.toNat_natCast], by unfold toV; rw [if_pos h, Int.toNat_natCast], ht j hj, hs, h40, fun i hi => ⟨hcd i hi, by unfold paC; rw [if_pos (hcd i hi), Int.toNat_natCast]⟩, fun i hi => ?_⟩
  have h1 := List.mem_filter.1 hi
  have h2 := List.mem_range.1 h1.1
  have h3 := h1.2
  simp only [Bool.and_eq_true, decide_eq_true_eq] at h3
  exact ⟨h2, by rw [← wayR_path]; exact under_way hs hj i h2 (by omega) h3.2⟩
theorem paC_len (xs : List Pc) (k : Int) : (paC xs k).length ≤ 40 := by
  unfold paC
  split
  · rename_i h
    obtain ⟨hok, j, rfl, hj⟩ := cdP_ok h
    obtain ⟨⟨_, h40⟩, _, hs, _⟩ := okP_ok hok
    rw [Int.toNat_natCast, ← wayR_path]
    have := wayR_len hs xs.length (j : Int) (by omega) (by omega)
    omega
  · simp
theorem uC_len (xs : List Pc) (k : Int) : (uC xs k).length ≤ xs.length := by
  unfold uC
  split
  · exact uL_len _ _ _
  · simp
end Go.Proofs.YtepgfcjfdnakbaaDoor
