/- Registers, part 10: the law FnExactCompareRegisters. -/
import Derived.Test.YtfaoilonkonmkaaReg9
namespace Go.Proofs.Ytfaoilonkonmkaa
open Go.RowKit Go.Joins

theorem toReg_c (B : Nat) (b : Int) (v : Value) (zs : List Int) (w : World) (h : Rd w B v zs.length 1 (ints zs)) (hB : B ≤ w.heap.size) (hl : zs.length ≤ 1048576) :
    Calls Try.prog 17 #[.agg #[.int .i64 b, v]] w fun e w' => ∃ A c, e = .returned (.agg #[.int .i64 b, .slice A zs.length c]) ∧ Rd w' w'.heap.size (.slice A zs.length c) zs.length 1 (ints zs) ∧ Below w.heap.size w w' := by
  refine (toRegister_any B b v zs w h hB hl).mono ?_
  rintro e w' ⟨s, rfl, ho, hb⟩
  have hr := Rd.of_own ho
  obtain ⟨_, A, c, rfl, _⟩ := Rd.of_own ho
  exact ⟨A, c, rfl, hr, hb⟩
theorem Rd.next {w w' : World} {v : Value} {n sz : Nat} {cs : List Value} (h : Rd w w.heap.size v n sz cs) (hb : Below w.heap.size w w') : Rd w' w'.heap.size v n sz cs := (h.below hb).more hb.size
theorem six_cells {W w1 : World} {a b c d e f : Addr} {x y z t u v : Value} (hb : Below W.heap.size W w1) (h : W.cell? a = some x ∧ W.cell? b = some y ∧ W.cell? c = some z ∧ W.cell? d = some t ∧ W.cell? e = some u ∧ W.cell? f = some v) :
    w1.cell? a = some x ∧ w1.cell? b = some y ∧ w1.cell? c = some z ∧ w1.cell? d = some t ∧ w1.cell? e = some u ∧ w1.cell? f = some v :=
  have k {p : Addr} {v : Value} (h : W.cell? p = some v) : w1.cell? p = some v := (hb.cell (World.block_lt_of_cell? W _ h)).trans h
  ⟨k h.1, k h.2.1, k h.2.2.1, k h.2.2.2.1, k h.2.2.2.2.1, k h.2.2.2.2.2⟩

set_option maxRecDepth 100000 in
set_option maxHeartbeats 3200000 in
theorem walkFnExactCompareRegisters {w : World} (b1 : Int) (v1 : Value) (z1 : List Int) (h1 : Rd w w.heap.size v1 z1.length 1 (ints z1)) (m1 : z1.length ≤ maxLen) (b2 : Int) (v2 : Value) (z2 : List Int) (h2 : Rd w w.heap.size v2 z2.length 1 (ints z2)) (m2 : z2.length ≤ maxLen) :
    Calls Try.prog 3 #[.agg #[.int .i64 b1, v1], .agg #[.int .i64 b2, v2]] w fun e w' => e = .returned (.bool true) ∧ Below w.heap.size w w' := by
  have HZ1 := Lib.hid (fun wx left hx hz p q => szRegister_any w.heap.size b1 v1 z1 left wx hx hz m1 p q)
  have HZ2 := Lib.hid (fun wx left hx hz p q => szRegister_any w.heap.size b2 v2 z2 left wx hx hz m2 p q)
  have HT1 := Lib.hid (fun wx hx hz hl => toReg_c w.heap.size b1 v1 z1 wx hx hz hl)
  have HT2 := Lib.hid (fun wx hx hz hl => toReg_c w.heap.size b2 v2 z2 wx hx hz hl)
  have H1 := Lib.hid h1
  have H2 := Lib.hid h2
  obtain ⟨_, A1, c1, rfl, _⟩ := h1
  obtain ⟨_, A2, c2, rfl, _⟩ := h2
  obtain ⟨w0, hw0⟩ : ∃ w0, (w.alloc (.cells #[.int .i64 b1, .slice A1 z1.length c1] 24)).alloc (.cells #[.int .i64 b2, .slice A2 z2.length c2] 24) = w0 := ⟨_, rfl⟩
  obtain ⟨hb0, hn1, hn2, hz0⟩ := two_boxes w _ _ _ _ _ _ w0 hw0
  have Hb0 := Lib.hid hb0
  have Hw0 := Lib.hid hw0
  have Hz0 := Lib.hid hz0
  have Hn1 := Lib.hid hn1
  have Hn2 := Lib.hid hn2
  obtain ⟨r0, r1, _, _⟩ := blk2 hn1
  obtain ⟨r2, r3, _, _⟩ := blk2 hn2
  have L1 := leftI_bd 1048576 z1.length (by omega)
  have L2 := leftI_bd (leftI 1048576 z1.length) z2.length L1.1
  generalize hl1 : leftI 1048576 z1.length = l1 at *
  generalize hl2 : leftI l1 z2.length = l2 at *
  have Hl1 := Lib.hid hl1
  have Hl2 := Lib.hid hl2
  clear hb0 hn1 hn2 hz0 hw0 hl1 hl2 m1 m2
  obtain ⟨L10, L11, L12⟩ := L1
  obtain ⟨L20, L21, L22⟩ := L2
  have HZ1' := Lib.hid (HZ1.out w0 1048576 (H1.out.below Hb0.out) Hb0.out.size (by omega) (by omega))
  rw [Hl1.out] at HZ1'
  by_cases n1 : l1 < 0
  · clear L11 L12 L20 L21 L22
    go_enter Try.func3, Try.ntmps3
    go_wp2_with fail
    rw [Hw0.out]
    refine HZ1'.out.mono ?_; rintro e w1 ⟨rfl, hb1⟩
    have hb01 := Hb0.out.trans (hb1.mono Hb0.out.size)
    go_wp2_with fail
    go_ret
    exact ⟨rfl, hb01⟩
  · have n1' : 0 ≤ l1 := by omega
    have q1 := L11 n1'
    clear L11 L12
    go_enter Try.func3, Try.ntmps3
    go_wp2_with fail
    rw [Hw0.out]
    refine HZ1'.out.mono ?_; rintro e w1 ⟨rfl, hb1⟩
    have hacc := Hb0.out.trans (hb1.mono Hb0.out.size)
    obtain ⟨s0, s1, s2, s3⟩ := four_below hb1 ⟨r0, r1, r2, r3⟩
    have HZ2' := Lib.hid (HZ2.out w1 l1 (H2.out.below hacc) hacc.size n1' L10)
    rw [Hl2.out] at HZ2'
    clear r0 r1 r2 r3 hb1
    go_wp2_with fail
    refine HZ2'.out.mono ?_; rintro e w2 ⟨rfl, hb2⟩
    have hacc' := hacc.trans (hb2.mono hacc.size); clear hacc; have hacc := hacc'; clear hacc'
    obtain ⟨r0, r1, r2, r3⟩ := four_below hb2 ⟨s0, s1, s2, s3⟩
    clear s0 s1 s2 s3 hb2
    by_cases n2 : l2 < 0
    · clear L21 L22
      go_wp2_with fail
      go_ret
      exact ⟨rfl, hacc⟩
    · have n2' : 0 ≤ l2 := by omega
      have q2 := L21 n2'
      have k1 : z1.length ≤ 1048576 := by omega
      have k2 : z2.length ≤ 1048576 := by omega
      clear L21 L22
      go_wp2_with fail
      have hacc' := hacc.drew; clear hacc; have hacc := hacc'; clear hacc'
      go_region_held3 (fun w' => w'.cell? ⟨w.heap.size, 0, none⟩ = some (.int .i64 b1) ∧ w'.cell? ⟨w.heap.size, 1, none⟩ = some (.slice A1 z1.length c1) ∧ w'.cell? ⟨w.heap.size + 1, 0, none⟩ = some (.int .i64 b2) ∧ w'.cell? ⟨w.heap.size + 1, 1, none⟩ = some (.slice A2 z2.length c2))
        (first | go_keep | assumption)
        (((first
          | (go_at_call 17; ((with_reducible refine (HT1.out _ (H1.out.below hacc) hacc.size k1).mono ?_)); rintro e wq ⟨A3, c3, rfl, hr3, hbq⟩; try (have hr4' := hr4.next hbq; clear hr4; have hr4 := hr4'; clear hr4'))
          | (go_at_call 17; ((with_reducible refine (HT2.out _ (H2.out.below hacc) hacc.size k2).mono ?_)); rintro e wq ⟨A4, c4, rfl, hr4, hbq⟩; try (have hr3' := hr3.next hbq; clear hr3; have hr3 := hr3'; clear hr3'))
          | (go_at_call 16; ((with_reducible refine (CompareS_any _ b1 b2 _ _ z1 z2 _ hr3 hr4 (Nat.le_refl _) k1 k2).mono ?_)); rintro e wq ⟨rfl, hbq⟩));
          have hSq := four_below hbq (by assumption); have hacc' := hacc.trans (hbq.mono hacc.size); clear hacc; have hacc := hacc'; clear hacc'))
      obtain ⟨r0, r1, r2, r3⟩ := hSq
      clear hr3 hr4 hbq
      go_wp2_with fail
      refine (HT1.out _ (H1.out.below hacc) hacc.size k1).mono ?_; rintro e w3 ⟨A5, c5, rfl, hr5, hb3⟩
      obtain ⟨s0, s1, s2, s3⟩ := four_below hb3 ⟨r0, r1, r2, r3⟩
      have hacc' := hacc.trans (hb3.mono hacc.size); clear hacc; have hacc := hacc'; clear hacc'
      clear r0 r1 r2 r3 hb3
      have hz3 := World.block_lt_of_cell? w3 _ s2
      have hz3 : w.heap.size + 1 < w3.heap.size := hz3
      have ha := (Below.refl w3.heap.size w3).alloc (Nat.le_refl _) (.cells #[.int .i64 b1, .slice A5 z1.length c5] 28)
      have hn5 := Lib.hid (heap_alloc_new w3 (.cells #[.int .i64 b1, .slice A5 z1.length c5] 28))
      have hfour := Lib.hid (four_below ha ⟨s0, s1, s2, s3⟩)
      have Hr5 := Lib.hid (hr5.next ha)
      have hacc' := hacc.trans (ha.mono hacc.size); clear hacc
      have Hacc := Lib.hid hacc'; clear hacc' hr5
      have hzz := ha.size
      clear ha
      have HT2' := Lib.hid (HT2.out (w3.alloc (.cells #[.int .i64 b1, .slice A5 z1.length c5] 28)) (H2.out.below Hacc.out) Hacc.out.size k2)
      go_wp2_with fail
      generalize w3.alloc (.cells #[.int .i64 b1, .slice A5 z1.length c5] 28) = w4 at *
      clear s0 s1 s2 s3
      have hlt34 : w3.heap.size < w4.heap.size := (Array.getElem?_eq_some_iff.1 hn5.out).1
      refine HT2'.out.mono ?_; rintro e w5 ⟨A6, c6, rfl, hr6, hb5⟩
      have ha := (Below.refl w5.heap.size w5).alloc (Nat.le_refl _) (.cells #[.int .i64 b2, .slice A6 z2.length c6] 28)
      have hn6 := Lib.hid (heap_alloc_new w5 (.cells #[.int .i64 b2, .slice A6 z2.length c6] 28))
      have hn5' := Lib.hid ((ha.block _ (Nat.lt_of_lt_of_le hlt34 hb5.size)).trans ((hb5.block w3.heap.size hlt34).trans hn5.out))
      have hfour5 := four_below hb5 hfour.out
      have hfour6 := Lib.hid (four_below ha hfour5)
      have Hr6 := Lib.hid (hr6.next ha)
      have Hr5' := Lib.hid ((Hr5.out.next hb5).next ha)
      have Hacc' := Lib.hid ((Hacc.out.trans (hb5.mono Hacc.out.size)).trans (ha.mono (Nat.le_trans Hacc.out.size hb5.size)))
      obtain ⟨s0, s1, s2, s3⟩ := hfour5
      obtain ⟨x0, x1, x2, x3⟩ := blk2 hn5'.out
      clear ha hb5 hr6 hfour Hr5 Hacc HT2'
      go_wp2_with fail
      have HC := Lib.hid (CompareI_any _ b1 b2 _ _ z1 z2 _ Hr5'.out Hr6.out (Nat.le_refl _) k1 k2)
      have hlt3 : w3.heap.size < (w5.alloc (.cells #[.int .i64 b2, .slice A6 z2.length c6] 28)).heap.size := (Array.getElem?_eq_some_iff.1 hn5'.out).1
      have hlt5 : w5.heap.size < (w5.alloc (.cells #[.int .i64 b2, .slice A6 z2.length c6] 28)).heap.size := (Array.getElem?_eq_some_iff.1 hn6.out).1
      generalize w5.alloc (.cells #[.int .i64 b2, .slice A6 z2.length c6] 28) = w6 at *
      refine HC.out.mono ?_; rintro e w7 ⟨rfl, hb7⟩
      obtain ⟨r0, r1, r2, r3⟩ := four_below hb7 hfour6.out
      have hn5 := Lib.hid ((hb7.block _ hlt3).trans hn5'.out)
      have hn6' := Lib.hid ((hb7.block _ hlt5).trans hn6.out)
      have Hr7 := Lib.hid (Hr5'.out.next hb7)
      have Hr8 := Lib.hid (Hr6.out.next hb7)
      have hacc := Hacc'.out.trans (hb7.mono Hacc'.out.size)
      clear s0 s1 s2 s3 x0 x1 x2 x3 hb7 HC hlt3 hlt5 hn5' hn6 Hr5' Hr6 Hacc' hfour6
      obtain ⟨x0, x1, _, _⟩ := blk2 hn5.out
      obtain ⟨x2, x3, _, _⟩ := blk2 hn6'.out
      have hnxt : Hid (∀ wx : World, Below w7.heap.size w7 wx → wx.cell? ⟨w.heap.size + 1, 0, none⟩ = some (.int .i64 b2) ∧ wx.cell? ⟨w.heap.size + 1, 1, none⟩ = some (.slice A2 z2.length c2) ∧ wx.cell? ⟨w5.heap.size, 0, none⟩ = some (.int .i64 b2) ∧ wx.cell? ⟨w5.heap.size, 1, none⟩ = some (.slice A6 z2.length c6)) :=
        Lib.hid fun wx hbx => four_below hbx ⟨r2, r3, x2, x3⟩
      clear r2 r3 x2 x3
      go_wp2_with fail
      have hacc' := hacc.drew; clear hacc; have hacc := hacc'; clear hacc'
      have hac2 : Below w7.heap.size w7 w7.drew := (Below.refl _ _).drew
      go_region_held3 (fun w' => w'.cell? ⟨w.heap.size, 0, none⟩ = some (.int .i64 b1) ∧ w'.cell? ⟨w.heap.size, 1, none⟩ = some (.slice A1 z1.length c1) ∧ w'.cell? ⟨w3.heap.size, 0, none⟩ = some (.int .i64 b1) ∧ w'.cell? ⟨w3.heap.size, 1, none⟩ = some (.slice A5 z1.length c5))
        (first | go_keep | assumption)
        (((first
          | (go_at_call 17; ((with_reducible refine (HT1.out _ (H1.out.below hacc) hacc.size k1).mono ?_)); rintro e wq ⟨A9, c9, rfl, hr9, hbq⟩)
          | (go_at_call 19; ((with_reducible refine (eqRegister_same _ _ b1 _ _ z1 _ (Hr7.out.below hac2) hr9 hac2.size (Nat.le_refl _) (Nat.le_trans k1 (by decide))).mono ?_)); rintro e wq ⟨rfl, hbq⟩));
          have hSq := four_below hbq (by assumption); have hacc' := hacc.trans (hbq.mono hacc.size); clear hacc; have hacc := hacc'; clear hacc'; have hac3 := hac2.trans (hbq.mono hac2.size); clear hac2; have hac2 := hac3; clear hac3))
      obtain ⟨wa, hwa⟩ : ∃ wa, wa = wq := ⟨_, rfl⟩
      subst hwa
      obtain ⟨r2, r3, x2, x3⟩ := hnxt.out _ hac2
      clear hr9 hbq hSq r0 r1 x0 x1 hnxt
      go_wp2_with fail
      have hacc' := hacc.drew; clear hacc; have hacc := hacc'; clear hacc'
      have hac2' := hac2.drew; clear hac2; have hac2 := hac2'; clear hac2'
      go_region_held3 (fun w' => w'.cell? ⟨w.heap.size + 1, 0, none⟩ = some (.int .i64 b2) ∧ w'.cell? ⟨w.heap.size + 1, 1, none⟩ = some (.slice A2 z2.length c2) ∧ w'.cell? ⟨w5.heap.size, 0, none⟩ = some (.int .i64 b2) ∧ w'.cell? ⟨w5.heap.size, 1, none⟩ = some (.slice A6 z2.length c6))
        (first | go_keep | assumption)
        (((first
          | (go_at_call 17; ((with_reducible refine (HT2.out _ (H2.out.below hacc) hacc.size k2).mono ?_)); rintro e wq ⟨A9, c9, rfl, hr9, hbq⟩)
          | (go_at_call 19; ((with_reducible refine (eqRegister_same _ _ b2 _ _ z2 _ (Hr8.out.below hac2) hr9 hac2.size (Nat.le_refl _) (Nat.le_trans k2 (by decide))).mono ?_)); rintro e wq ⟨rfl, hbq⟩));
          have hSq := four_below hbq (by assumption); have hacc' := hacc.trans (hbq.mono hacc.size); clear hacc; have hacc := hacc'; clear hacc'; have hac3 := hac2.trans (hbq.mono hac2.size); clear hac2; have hac2 := hac3; clear hac3))
      go_wp2_with fail
      go_ret
      exact ⟨rfl, hacc⟩
end Go.Proofs.Ytfaoilonkonmkaa
