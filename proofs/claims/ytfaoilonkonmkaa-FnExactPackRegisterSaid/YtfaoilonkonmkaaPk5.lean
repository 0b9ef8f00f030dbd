/- Packed registers, part 5: the law FnExactPackRegister. -/
import Derived.Test.YtfaoilonkonmkaaPk4
import Derived.Test.YtfaoilonkonmkaaReg10
namespace Go.Proofs.Ytfaoilonkonmkaa
open Go.RowKit Go.Joins

set_option maxRecDepth 100000 in
set_option maxHeartbeats 3200000 in
theorem walkFnExactPackRegister {w : World} (b1 : Int) (v1 : Value) (z1 : List Int) (h1 : Rd w w.heap.size v1 z1.length 1 (ints z1)) (m1 : z1.length ≤ maxLen) :
    Calls Try.prog 4 #[.agg #[.int .i64 b1, v1]] w fun e w' => e = .returned (.bool true) ∧ Below w.heap.size w w' := by
  have HT1 := Lib.hid (fun wx hx hz hl => toReg_c w.heap.size b1 v1 z1 wx hx hz hl)
  have HZ1 := Lib.hid (fun wx left hx hz p q => szRegister_any w.heap.size b1 v1 z1 left wx hx hz m1 p q)
  have H1 := Lib.hid h1
  obtain ⟨_, A1, c1, rfl, _⟩ := h1
  have hb0 := (Below.refl w.heap.size w).alloc (Nat.le_refl _) (.cells #[.int .i64 b1, .slice A1 z1.length c1] 24)
  have hn1 := heap_alloc_new w (.cells #[.int .i64 b1, .slice A1 z1.length c1] 24)
  have hz0 : w.heap.size < (w.alloc (.cells #[.int .i64 b1, .slice A1 z1.length c1] 24)).heap.size := by simp
  generalize hw0 : w.alloc (.cells #[.int .i64 b1, .slice A1 z1.length c1] 24) = w0 at *
  have Hb0 := Lib.hid hb0
  have Hw0 := Lib.hid hw0
  have Hn1 := Lib.hid hn1
  obtain ⟨r0, r1, _, _⟩ := blk2 hn1
  have L1 := leftI_bd 1048576 z1.length (by omega)
  have HZ1' := Lib.hid (HZ1.out w0 1048576 (H1.out.below Hb0.out) Hb0.out.size (by omega) (by omega))
  generalize hl1 : leftI 1048576 z1.length = l1 at *
  have Hl1 := Lib.hid hl1
  clear hb0 hn1 hw0 hl1 m1 HZ1
  obtain ⟨L10, L11, L12⟩ := L1
  by_cases n1 : l1 < 0
  · clear L11 L12
    go_enter Try.func4, Try.ntmps4
    go_wp2_with fail
    rw [Hw0.out]
    refine HZ1'.out.mono ?_; rintro e w1 ⟨rfl, hb1⟩
    have hb01 := Hb0.out.trans (hb1.mono Hb0.out.size)
    go_wp2_with fail
    go_ret
    exact ⟨rfl, hb01⟩
  · have n1' : 0 ≤ l1 := by omega
    have q1 := L11 n1'
    have k1 : z1.length ≤ 1048576 := by omega
    clear L11 L12
    go_enter Try.func4, Try.ntmps4
    go_wp2_with fail
    rw [Hw0.out]
    refine HZ1'.out.mono ?_; rintro e w1 ⟨rfl, hb1⟩
    have hacc := Hb0.out.trans (hb1.mono Hb0.out.size)
    have hz1 := Nat.lt_of_lt_of_le hz0 hb1.size
    obtain ⟨s0, s1⟩ := two_below hb1 hz0 ⟨r0, r1⟩
    clear r0 r1 hb1 hz0
    go_wp2_with fail
    refine (HT1.out _ (H1.out.below hacc) hacc.size k1).mono ?_; rintro e w2 ⟨A2, c2, rfl, hr2, hb2⟩
    have hacc2 := hacc.trans (hb2.mono hacc.size)
    have hz2 := Nat.lt_of_lt_of_le hz1 hb2.size
    obtain ⟨r0, r1⟩ := two_below hb2 hz1 ⟨s0, s1⟩
    have HS := Lib.hid (PackS_any _ b1 _ z1 w2 hr2 (Nat.le_refl _) k1)
    clear s0 s1 hb2 hz1 hr2 hacc
    go_wp2_with fail
    refine HS.out.mono ?_; rintro e w3 ⟨rfl, hb3⟩
    have hacc3 := hacc2.trans (hb3.mono hacc2.size)
    have hz3 := Nat.lt_of_lt_of_le hz2 hb3.size
    obtain ⟨s0, s1⟩ := two_below hb3 hz2 ⟨r0, r1⟩
    clear r0 r1 hb3 hz2 hacc2
    go_wp2_with fail
    refine (HT1.out _ (H1.out.below hacc3) hacc3.size k1).mono ?_; rintro e w4 ⟨A4, c4, rfl, hr4, hb4⟩
    have ha := (Below.refl w4.heap.size w4).alloc (Nat.le_refl _) (.cells #[.int .i64 b1, .slice A4 z1.length c4] 28)
    have hn4 := Lib.hid (heap_alloc_new w4 (.cells #[.int .i64 b1, .slice A4 z1.length c4] 28))
    have hlt4 : w4.heap.size < (w4.alloc (.cells #[.int .i64 b1, .slice A4 z1.length c4] 28)).heap.size := by simp
    have hb45 := (hb4.trans (ha.mono hb4.size))
    have hacc4 := Lib.hid (hacc3.trans (hb45.mono hacc3.size))
    have hlt1 := Nat.lt_of_lt_of_le hz3 hb45.size
    have hcc := Lib.hid (two_below hb45 hz3 ⟨s0, s1⟩)
    have Hr4 := Lib.hid (hr4.next ha)
    have HP := Lib.hid (PackI_any _ b1 _ z1 _ (hr4.next ha) (Nat.le_refl _) k1)
    clear s0 s1 hb4 ha hacc3 hz3 hb45 hr4
    go_wp2_with fail
    generalize w4.alloc (.cells #[.int .i64 b1, .slice A4 z1.length c4] 28) = w5 at *
    refine HP.out.mono ?_; rintro e w6 ⟨rfl, hb6⟩
    obtain ⟨r0, r1⟩ := two_below hb6 hlt1 hcc.out
    obtain ⟨t0, t1, _, _⟩ := blk2 ((hb6.block _ hlt4).trans hn4.out)
    have hacc := (hacc4.out.trans (hb6.mono hacc4.out.size)).drew
    have Hr6 := Lib.hid (Hr4.out.next hb6)
    have hac2 : Below w6.heap.size w6 w6.drew := (Below.refl _ _).drew
    clear hb6 hacc4 hlt1 hlt4 hcc hn4 Hr4 HP
    generalize packT b1 z1 = pt at *
    generalize packE b1 z1 = pe at *
    go_wp2_with fail
    go_region_held3 (fun w' => w'.cell? ⟨w.heap.size, 0, none⟩ = some (.int .i64 b1) ∧ w'.cell? ⟨w.heap.size, 1, none⟩ = some (.slice A1 z1.length c1) ∧ w'.cell? ⟨w4.heap.size, 0, none⟩ = some (.int .i64 b1) ∧ w'.cell? ⟨w4.heap.size, 1, none⟩ = some (.slice A4 z1.length c4))
      (first | go_keep | assumption)
      (((first
        | (go_at_call 17; ((with_reducible refine (HT1.out _ (H1.out.below hacc) hacc.size k1).mono ?_)); rintro e wq ⟨A9, c9, rfl, hr9, hbq⟩)
        | (go_at_call 19; ((with_reducible refine (eqRegister_same _ _ b1 _ _ z1 _ (Hr6.out.below hac2) hr9 hac2.size (Nat.le_refl _) (Nat.le_trans k1 (by decide))).mono ?_)); rintro e wq ⟨rfl, hbq⟩));
        have hSq := four_below hbq (by assumption); have hacc' := hacc.trans (hbq.mono hacc.size); clear hacc; have hacc := hacc'; clear hacc'; have hac3 := hac2.trans (hbq.mono hac2.size); clear hac2; have hac2 := hac3; clear hac3))
    go_wp2_with fail
    go_ret
    exact ⟨rfl, hacc⟩
end Go.Proofs.Ytfaoilonkonmkaa
