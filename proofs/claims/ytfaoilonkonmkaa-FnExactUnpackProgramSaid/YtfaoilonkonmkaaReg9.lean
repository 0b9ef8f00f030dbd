/- Registers, part 9: CompareRegisters on both sides. -/
import Derived.Test.YtfaoilonkonmkaaReg8
namespace Go.Proofs.Ytfaoilonkonmkaa
open Go.RowKit Go.Joins

def cmpV (b1 : Int) (z1 : List Int) (b2 : Int) (z2 : List Int) : Int :=
  if codeTwo b1 z1 b2 z2 ≠ 0 then 0 else if capV b1 z1 < capV b2 z2 then -1 else if capV b2 z2 < capV b1 z1 then 1 else 0

/-- two boxed registers at the blocks N and N + 1 -/
theorem two_boxes (w : World) (x1 y1 x2 y2 : Value) (t1 t2 : TypeId) (w0 : World) (h : (w.alloc (.cells #[x1, y1] t1)).alloc (.cells #[x2, y2] t2) = w0) :
    Below w.heap.size w w0 ∧ w0.heap[w.heap.size]? = some (.cells #[x1, y1] t1 (0, 0)) ∧ w0.heap[w.heap.size + 1]? = some (.cells #[x2, y2] t2 (0, 0)) ∧ w0.heap.size = w.heap.size + 2 := by
  subst h
  refine ⟨((Below.refl w.heap.size w).alloc (Nat.le_refl _) _).alloc (by simp) _, (Below.heap_alloc _ _ _ (by simp)).trans (heap_alloc_new w _), ?_, by simp⟩
  have := heap_alloc_new (w.alloc (.cells #[x1, y1] t1)) (.cells #[x2, y2] t2)
  simpa using this

set_option maxRecDepth 100000 in
set_option maxHeartbeats 1600000 in
theorem CompareS_any (B : Nat) (b1 b2 : Int) (v1 v2 : Value) (z1 z2 : List Int) (w : World) (h1 : Rd w B v1 z1.length 1 (ints z1)) (h2 : Rd w B v2 z2.length 1 (ints z2)) (hB : B ≤ w.heap.size) (hl1 : z1.length ≤ 1048576) (hl2 : z2.length ≤ 1048576) :
    Calls Try.prog 16 #[.agg #[.int .i64 b1, v1], .agg #[.int .i64 b2, v2]] w fun e w' => e = .returned (.tuple #[.int .i64 (cmpV b1 z1 b2 z2), .int .i64 (codeTwo b1 z1 b2 z2)]) ∧ Below w.heap.size w w' := by
  have HT := Lib.hid (fun wx g1 g2 k1 k2 k3 k4 hx hy => l02Two_any B g1 g2 b1 b2 v1 v2 z1 z2 wx k1 k2 k3 k4 hx hy hl1 hl2)
  have H1 := Lib.hid h1
  have H2 := Lib.hid h2
  obtain ⟨_, A1, c1, rfl, _⟩ := h1
  obtain ⟨_, A2, c2, rfl, _⟩ := h2
  obtain ⟨w0, hw0⟩ : ∃ w0, (w.alloc (.cells #[.int .i64 b1, .slice A1 z1.length c1] 28)).alloc (.cells #[.int .i64 b2, .slice A2 z2.length c2] 28) = w0 := ⟨_, rfl⟩
  obtain ⟨hb0, hn1, hn2, hz0⟩ := two_boxes w _ _ _ _ _ _ w0 hw0
  have Hb0 := Lib.hid hb0
  have Hw0 := Lib.hid hw0
  have Hz0 := Lib.hid hz0
  obtain ⟨r0, r1, _, _⟩ := blk2 hn1
  obtain ⟨r2, r3, _, _⟩ := blk2 hn2
  have HT2 := Lib.hid (HT.out w0 _ _ r0 r1 r2 r3 (H1.out.below (hb0.mono hB)) (H2.out.below (hb0.mono hB)))
  clear hb0 hn1 hn2 hw0 HT hz0
  rcases codeTwo_cases b1 z1 b2 z2 with hc | hc
  · have hc0 := Lib.hid hc
    obtain ⟨ho1, ho2, hbb, hlen⟩ := codeTwo_ok hc; clear hlen
    obtain ⟨p1, p2, p3, p5, p6, p4⟩ := okReg_parts ho1
    obtain ⟨q1, q2, q3, q5, q6, q4⟩ := okReg_parts ho2; clear p5 p6 q1 q2 q5 q6
    subst hbb
    have HV1 := Lib.hid (fun wx hx => l02Value_any B b1 (.slice A1 z1.length c1) z1 wx hx p1 p2 p3 hl1)
    have HV2 := Lib.hid (fun wx hx => l02Value_any B b1 (.slice A2 z2.length c2) z2 wx hx p1 p2 q3 hl2)
    have hcm := Lib.hid (show cmpV b1 z1 b1 z2 = if capV b1 z1 < capV b1 z2 then -1 else if capV b1 z2 < capV b1 z1 then 1 else 0 by unfold cmpV; rw [if_neg (by simp [hc])])
    rw [hc] at HT2
    clear hc ho1 ho2 p1 p2 p3 q3
    generalize hx : capV b1 z1 = x at *
    generalize hy : capV b1 z2 = y at *
    have Hx := Lib.hid hx; clear hx
    have Hy := Lib.hid hy; clear hy
    rcases Int.lt_trichotomy x y with hlt | heq | hgt
    · have hfin := Lib.hid (show cmpV b1 z1 b1 z2 = -1 by rw [hcm.out, if_pos hlt])
      go_enter Try.func16, Try.ntmps16
      go_wp2_with fail
      rw [Hw0.out]
      refine HT2.out.mono ?_; rintro e w1 ⟨rfl, n, rfl⟩
      go_wp2_with fail
      refine (HV1.out _ (H1.out.below (below_drewN (Hb0.out.mono hB) _))).mono ?_; rintro e w1 ⟨rfl, rfl⟩
      go_wp2_with fail
      refine (HV2.out _ (H2.out.below (below_drewN (Hb0.out.mono hB) _))).mono ?_; rintro e w1 ⟨rfl, rfl⟩
      go_wp2_with fail
      go_ret2
      rw [hfin.out, hc0.out]; exact ⟨rfl, below_drewN Hb0.out _⟩
    · have hfin := Lib.hid (show cmpV b1 z1 b1 z2 = 0 by rw [hcm.out, heq]; simp)
      subst heq
      go_enter Try.func16, Try.ntmps16
      go_wp2_with fail
      rw [Hw0.out]
      refine HT2.out.mono ?_; rintro e w1 ⟨rfl, n, rfl⟩
      go_wp2_with fail
      refine (HV1.out _ (H1.out.below (below_drewN (Hb0.out.mono hB) _))).mono ?_; rintro e w1 ⟨rfl, rfl⟩
      go_wp2_with fail
      refine (HV2.out _ (H2.out.below (below_drewN (Hb0.out.mono hB) _))).mono ?_; rintro e w1 ⟨rfl, rfl⟩
      go_wp2_with fail
      go_ret2
      rw [hfin.out, hc0.out]; exact ⟨rfl, below_drewN Hb0.out _⟩
    · have hfin := Lib.hid (show cmpV b1 z1 b1 z2 = 1 by rw [hcm.out, if_neg (by omega), if_pos hgt])
      have hge : ¬ x < y := by omega
      go_enter Try.func16, Try.ntmps16
      go_wp2_with fail
      rw [Hw0.out]
      refine HT2.out.mono ?_; rintro e w1 ⟨rfl, n, rfl⟩
      go_wp2_with fail
      refine (HV1.out _ (H1.out.below (below_drewN (Hb0.out.mono hB) _))).mono ?_; rintro e w1 ⟨rfl, rfl⟩
      go_wp2_with fail
      refine (HV2.out _ (H2.out.below (below_drewN (Hb0.out.mono hB) _))).mono ?_; rintro e w1 ⟨rfl, rfl⟩
      go_wp2_with fail
      go_ret2
      rw [hfin.out, hc0.out]; exact ⟨rfl, below_drewN Hb0.out _⟩
  · have hne : codeTwo b1 z1 b2 z2 ≠ 0 := by omega
    have hq : (codeTwo b1 z1 b2 z2 != 0) = true := by simpa using hne
    have hfin := Lib.hid (show cmpV b1 z1 b2 z2 = 0 by unfold cmpV; rw [if_pos hne])
    clear hc hne
    generalize codeTwo b1 z1 b2 z2 = cd at *
    go_enter Try.func16, Try.ntmps16
    go_wp2_with fail
    rw [Hw0.out]
    refine HT2.out.mono ?_; rintro e w1 ⟨rfl, n, rfl⟩
    go_wp2_with fail
    go_ret2
    rw [hfin.out]; exact ⟨rfl, below_drewN Hb0.out _⟩

set_option maxRecDepth 100000 in
set_option maxHeartbeats 1600000 in
theorem CompareI_any (B : Nat) (b1 b2 : Int) (v1 v2 : Value) (z1 z2 : List Int) (w : World) (h1 : Rd w B v1 z1.length 1 (ints z1)) (h2 : Rd w B v2 z2.length 1 (ints z2)) (hB : B ≤ w.heap.size) (hl1 : z1.length ≤ 1048576) (hl2 : z2.length ≤ 1048576) :
    Calls Try.prog 18 #[.agg #[.int .i64 b1, v1], .agg #[.int .i64 b2, v2]] w fun e w' => e = .returned (.tuple #[.int .i64 (cmpV b1 z1 b2 z2), .int .i64 (codeTwo b1 z1 b2 z2)]) ∧ Below w.heap.size w w' := by
  have HT := Lib.hid (fun wx hx hy hz => pairCode_any B b1 b2 v1 v2 z1 z2 wx hx hy hz hl1 hl2)
  have H1 := Lib.hid h1
  have H2 := Lib.hid h2
  obtain ⟨_, A1, c1, rfl, _⟩ := h1
  obtain ⟨_, A2, c2, rfl, _⟩ := h2
  obtain ⟨w0, hw0⟩ : ∃ w0, (w.alloc (.cells #[.int .i64 b1, .slice A1 z1.length c1] 28)).alloc (.cells #[.int .i64 b2, .slice A2 z2.length c2] 28) = w0 := ⟨_, rfl⟩
  obtain ⟨hb0, hn1, hn2, hz0⟩ := two_boxes w _ _ _ _ _ _ w0 hw0
  have Hb0 := Lib.hid hb0
  have Hw0 := Lib.hid hw0
  have Hz0 := Lib.hid hz0
  have Hn1 := Lib.hid hn1
  have Hn2 := Lib.hid hn2
  have HT2 := Lib.hid (HT.out w0 (H1.out.below (hb0.mono hB)) (H2.out.below (hb0.mono hB)) (by omega))
  clear hb0 hw0 HT
  rcases codeTwo_cases b1 z1 b2 z2 with hc | hc
  · have hc0 := Lib.hid hc
    obtain ⟨ho1, ho2, hbb, hlen⟩ := codeTwo_ok hc; clear hlen
    obtain ⟨p1, p2, p3, p5, p6, p4⟩ := okReg_parts ho1
    obtain ⟨q1, q2, q3, q5, q6, q4⟩ := okReg_parts ho2; clear p5 p6 q1 q2 q5 q6
    subst hbb
    have HV1 := Lib.hid (fun wx hx hz => value_any B b1 (.slice A1 z1.length c1) z1 wx hx hz p1 p2 p3 hl1)
    have HV2 := Lib.hid (fun wx hx hz => value_any B b1 (.slice A2 z2.length c2) z2 wx hx hz p1 p2 q3 hl2)
    have hcm := Lib.hid (show cmpV b1 z1 b1 z2 = if capV b1 z1 < capV b1 z2 then -1 else if capV b1 z2 < capV b1 z1 then 1 else 0 by unfold cmpV; rw [if_neg (by simp [hc])])
    rw [hc] at HT2
    clear hc ho1 ho2 p1 p2 p3 q3
    generalize hx : capV b1 z1 = x at *
    generalize hy : capV b1 z2 = y at *
    have Hx := Lib.hid hx; clear hx
    have Hy := Lib.hid hy; clear hy
    have hh : (x < y ∧ Hid (cmpV b1 z1 b1 z2 = -1)) ∨ (x = y ∧ Hid (cmpV b1 z1 b1 z2 = 0)) ∨ (¬ x < y ∧ y < x ∧ Hid (cmpV b1 z1 b1 z2 = 1)) := by
      rcases Int.lt_trichotomy x y with h | h | h
      · exact .inl ⟨h, Lib.hid (by rw [hcm.out, if_pos h])⟩
      · exact .inr (.inl ⟨h, Lib.hid (by rw [hcm.out, h]; simp)⟩)
      · exact .inr (.inr ⟨by omega, h, Lib.hid (by rw [hcm.out, if_neg (by omega), if_pos h])⟩)
    clear hcm
    rcases hh with ⟨hlt, hfin⟩ | ⟨rfl, hfin⟩ | ⟨hge, hlt, hfin⟩
    all_goals
      obtain ⟨r0, r1, _, _⟩ := blk2 Hn1.out
      obtain ⟨r2, r3, _, _⟩ := blk2 Hn2.out
      go_enter Try.func18, Try.ntmps18
      go_wp2_with fail
      rw [Hw0.out]
      refine HT2.out.mono ?_; rintro e w1 ⟨rfl, hb1⟩
      have hb01 := Hb0.out.trans (hb1.mono (by omega))
      have hz1 := hb1.size
      clear r0 r1 r2 r3
      obtain ⟨r0, r1, _, _⟩ := blk2 ((hb1.block w.heap.size (by omega)).trans Hn1.out)
      obtain ⟨r2, r3, _, _⟩ := blk2 ((hb1.block (w.heap.size + 1) (by omega)).trans Hn2.out)
      have hacc : Below w.heap.size w w1.drew := hb01.drew
      have hw1 : w.heap.size + 1 < w1.heap.size := by omega
      clear hb1 hb01
      go_wp2_with fail
      go_region_held3 (fun w' => w'.cell? ⟨w.heap.size, 0, none⟩ = some (.int .i64 b1) ∧ w'.cell? ⟨w.heap.size, 1, none⟩ = some (.slice A1 z1.length c1) ∧ w'.cell? ⟨w.heap.size + 1, 0, none⟩ = some (.int .i64 b1) ∧ w'.cell? ⟨w.heap.size + 1, 1, none⟩ = some (.slice A2 z2.length c2))
        (first | go_keep | assumption)
        ((go_at_call 75; (first | ((with_reducible refine (HV1.out _ (H1.out.below (hacc.mono hB)) (Nat.le_trans hB hacc.size)).mono ?_)) | ((with_reducible refine (HV2.out _ (H2.out.below (hacc.mono hB)) (Nat.le_trans hB hacc.size)).mono ?_))); rintro e wq ⟨rfl, hbq⟩; have hSq := four_below hbq (by assumption); have hacc' := hacc.trans (hbq.mono hacc.size); clear hacc; have hacc := hacc'; clear hacc'))
      all_goals
        go_wp2_with fail
        go_ret2
        rw [hfin.out, hc0.out]; exact ⟨rfl, hacc⟩
  · have hne : codeTwo b1 z1 b2 z2 ≠ 0 := by omega
    have hq : (codeTwo b1 z1 b2 z2 != 0) = true := by simpa using hne
    have hfin := Lib.hid (show cmpV b1 z1 b2 z2 = 0 by unfold cmpV; rw [if_pos hne])
    obtain ⟨r0, r1, _, _⟩ := blk2 Hn1.out
    obtain ⟨r2, r3, _, _⟩ := blk2 Hn2.out
    clear hc hne
    generalize codeTwo b1 z1 b2 z2 = cd at *
    go_enter Try.func18, Try.ntmps18
    go_wp2_with fail
    rw [Hw0.out]
    refine HT2.out.mono ?_; rintro e w1 ⟨rfl, hb1⟩
    have hb01 := Hb0.out.trans (hb1.mono (by omega))
    go_wp2_with fail
    go_ret2
    rw [hfin.out]; exact ⟨rfl, hb01⟩
end Go.Proofs.Ytfaoilonkonmkaa
