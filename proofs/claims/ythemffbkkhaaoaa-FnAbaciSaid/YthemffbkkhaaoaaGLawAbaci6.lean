/- Merged texts: Ab24, Ab25, Ab26, Ab16, Ab17, Ab18, Dm14, Dm15. -/
import Derived.Test.YthemffbkkhaaoaaGLawAbaci5
import Derived.Test.YthemffbkkhaaoaaGLawAbaci3
import Derived.Test.YthemffbkkhaaoaaGLawAbaci1
/- Abaci: draws from the code. -/
namespace Go.Proofs.Ythemffbkkhaaoaa
open Go.RowKit Go.Joins

set_option maxRecDepth 100000 in
set_option maxHeartbeats 800000 in
theorem l03DrawValue_any (B g k : Nat) (bs : List UInt8) (W : World) (hs : SrcAt W B g k bs) (hk : k < 4611686018427370000) : Calls Try.prog 125 #[.pointer (some ⟨g, 0, none⟩)] W fun e w' => ∃ x : Int, e = .returned (.int .i64 x) ∧ SrcAt w' B g (k + 10) bs ∧ W.grownBy w' (some g) := by
  have H := Lib.hid hs
  clear hs
  go_enter Try.func125, Try.ntmps125
  go_wp2_with fail
  refine (one_any B g _ bs 10 W H.out (by omega)).mono ?_; rintro e w1 ⟨y, rfl, hs1, hg1⟩
  have H1 := Lib.hid hs1
  have G1 := Lib.hid hg1
  clear hs1 hg1
  cases y with
  | true =>
    go_wp2_with fail
    refine (among_in B g _ 5 [-1, 0, 999999, 1000000000000, 1000000000001] bs w1 H1.out (by omega) rfl (by omega) (by omega)).mono ?_; rintro e w2 ⟨z, _, rfl, hs2, hg2⟩
    have H2 := Lib.hid (hs2.more (k' := k + 10) (by omega))
    have G2 := Lib.hid (grown_trans G1.out hg2)
    clear hs2 hg2
    go_wp2_with fail
    go_ret
    exact ⟨z, rfl, H2.out, G2.out⟩
  | false =>
    go_wp2_with fail
    refine (pick_any B g _ bs 1000 w1 H1.out (by omega)).mono ?_; rintro e w2 ⟨n, rfl, ⟨n0, n1, _⟩, hs2, hg2⟩
    have H2 := Lib.hid hs2
    have G2 := Lib.hid (grown_trans G1.out hg2)
    have n2 := n1 (by omega)
    clear hs2 hg2 n1
    go_wp2_with fail
    refine (pick_any B g _ bs 2 w2 H2.out (by omega)).mono ?_; rintro e w3 ⟨a, rfl, ⟨a0, a1, _⟩, hs3, hg3⟩
    have H3 := Lib.hid hs3
    have G3 := Lib.hid (grown_trans G2.out hg3)
    have a2 := a1 (by omega)
    clear hs3 hg3 a1
    go_wp2_with fail
    refine (pick_any B g _ bs 1000 w3 H3.out (by omega)).mono ?_; rintro e w4 ⟨b, rfl, ⟨b0, b1, _⟩, hs4, hg4⟩
    have H4 := Lib.hid (hs4.more (k' := k + 10) (by omega))
    have G4 := Lib.hid (grown_trans G3.out hg4)
    have b2 := b1 (by omega)
    clear hs4 hg4 b1
    have p0 : 0 ≤ a * b := Int.mul_nonneg a0 b0
    have p1 : a * b ≤ 1 * b := Int.mul_le_mul_of_nonneg_right (by omega) b0
    generalize hab : a * b = ab at *
    have hw1 : IntKind.i64.wrap ab = ab := IntWalk.i64_in _ (by omega)
    have hw2 : IntKind.i64.wrap (1 + ab) = 1 + ab := IntWalk.i64_in _ (by omega)
    have p2 : 0 ≤ n * (1 + ab) := Int.mul_nonneg n0 (by omega)
    have p3 : n * (1 + ab) ≤ 1000 * (1 + ab) := Int.mul_le_mul_of_nonneg_right (by omega) (by omega)
    have hw3 : IntKind.i64.wrap (n * (1 + ab)) = n * (1 + ab) := IntWalk.i64_in _ (by omega)
    clear p0 p1 p2 p3
    go_wp2_with fail
    go_ret
    exact ⟨_, rfl, H4.out, G4.out⟩
/-- a result is written, whose row lies in blocks behind it -/
theorem doneA {W w : World} {r base n : Nat} {v : Value} {cs : List Value} (hr : w.heap[r]? = some (.cells #[.int .i64 0, .int .i64 0, .int .i64 0, .slice none 0 0] 52 (0, 0))) (hb : Below W.heap.size W w) (lr : W.heap.size ≤ r) (ho : w.ownsRow base 143 2 v n cs) (hl : r < base) (a b c d : Value) :
    ((put4 w r a b c d).cell? ⟨r, 0, none⟩ = some a ∧ (put4 w r a b c d).cell? ⟨r, 1, none⟩ = some b ∧ (put4 w r a b c d).cell? ⟨r, 2, none⟩ = some c ∧ (put4 w r a b c d).cell? ⟨r, 3, none⟩ = some d) ∧
    Below W.heap.size W (put4 w r a b c d) ∧ Rd (put4 w r a b c d) (put4 w r a b c d).heap.size v n 2 cs := by
  have g4 := heap_setCell_same _ r 3 _ _ d (heap_setCell_same _ r 2 _ _ c (heap_setCell_same _ r 1 _ _ b (heap_setCell_same w r 0 _ _ a hr)))
  exact ⟨(blk4 g4).1, (((hb.setCell (p := ⟨r, 0, none⟩) lr a).setCell (p := ⟨r, 1, none⟩) lr b).setCell (p := ⟨r, 2, none⟩) lr c).setCell (p := ⟨r, 3, none⟩) lr d, Rd.of_own (put4_own ho hl a b c d)⟩
/-- an abacus drawn from the code -/
def RetCa (W : World) (e : Ending) (w' : World) : Prop := ∃ (a : Ab) (v : Value), e = .returned (aggAb a.u a.l a.w v) ∧ a.rods.length ≤ 11 ∧ Rd w' w'.heap.size v a.rods.length 2 (rodsC a.rods) ∧ Below W.heap.size W w'
set_option maxRecDepth 100000 in
set_option maxHeartbeats 1600000 in
theorem drawPA_any (B : Nat) (cv : Value) (bs : List UInt8) (W : World) (h : Rd W B cv bs.length 1 (bs.map byV)) (hB : B ≤ W.heap.size) : Calls Try.prog 35 #[cv] W (RetCa W) := by
  have hb0 := (Below.refl W.heap.size W).alloc (Nat.le_refl _) objZ
  have Hr0 := Lib.hid (heap_alloc_new W (.cells #[.int .i64 0, .int .i64 0, .int .i64 0, .slice none 0 0] 52))
  have HB0 := Lib.hid hb0
  have HF := Lib.hid (l00From_any B cv bs (W.alloc objZ) (h.below (hb0.mono hB)) (Nat.le_trans hB hb0.size))
  have hz0 : W.heap.size < (W.alloc objZ).heap.size := by simp
  obtain ⟨_, A, c, rfl, _⟩ := h
  clear hb0
  go_enter Try.func35, Try.ntmps35
  go_wp2_with fail
  generalize W.alloc objZ = w1 at *
  refine HF.out.mono ?_; rintro e w2 ⟨rfl, hs2, hb2, hl2⟩
  have H2 := Lib.hid hs2
  have Hr2 := Lib.hid ((hb2.block _ (by omega)).trans Hr0.out)
  have HB2 := Lib.hid (HB0.out.trans (hb2.mono HB0.out.size))
  have hsb := hb2.size
  clear hs2 hb2 HF Hr0 HB0
  go_wp2_with fail
  refine (l03Bent_any B _ _ bs w2 H2.out (by omega)).mono ?_; rintro e w3 ⟨⟨u, l, w, rs⟩, v, rfl, _, hl, ho, hs3, hg3⟩
  have hb3 := HB2.out.grown hg3 HB2.out.size (fun x hx => by cases hx; omega)
  have hr3 := (hg3.block _ (blk_ltN Hr2.out) (fun e => by injection e; omega)).trans Hr2.out
  obtain ⟨⟨r0, r1, r2, r3⟩, s0, s1, s2, s3⟩ := blk4 hr3
  have HD := Lib.hid (doneA hr3 hb3 (Nat.le_refl _) ho (by omega) (.int .i64 u) (.int .i64 l) (.int .i64 w) v)
  obtain ⟨A3, c3, rfl⟩ := own_sl ho
  clear hs3 hg3 hb3 hr3 H2 Hr2 HB2 ho
  go_wp2_with fail
  obtain ⟨⟨k0, k1, k2, k3⟩, hbz, hoz⟩ := HD.out
  refine bodyPost_ret (v := aggAb u l w (.slice A3 rs.length c3)) (by simp [results, Try.results35, go_sem, k0, k1, k2, k3]) rfl ?_
  exact ⟨⟨u, l, w, rs⟩, _, rfl, hl, hoz, hbz⟩
set_option maxRecDepth 100000 in
set_option maxHeartbeats 1600000 in
theorem drawAV_any (B : Nat) (cv : Value) (bs : List UInt8) (W : World) (h : Rd W B cv bs.length 1 (bs.map byV)) (hB : B ≤ W.heap.size) : Calls Try.prog 38 #[cv] W (RetCa W) := by
  have hb0 := (Below.refl W.heap.size W).alloc (Nat.le_refl _) objZ
  have Hr0 := Lib.hid (heap_alloc_new W (.cells #[.int .i64 0, .int .i64 0, .int .i64 0, .slice none 0 0] 52))
  have HB0 := Lib.hid hb0
  have HF := Lib.hid (l00From_any B cv bs (W.alloc objZ) (h.below (hb0.mono hB)) (Nat.le_trans hB hb0.size))
  have hz0 : W.heap.size < (W.alloc objZ).heap.size := by simp
  obtain ⟨_, A, c, rfl, _⟩ := h
  clear hb0
  go_enter Try.func38, Try.ntmps38
  go_wp2_with fail
  generalize W.alloc objZ = w1 at *
  refine HF.out.mono ?_; rintro e w2 ⟨rfl, hs2, hb2, hl2⟩
  have H2 := Lib.hid hs2
  have Hr2 := Lib.hid ((hb2.block _ (by omega)).trans Hr0.out)
  have HB2 := Lib.hid (HB0.out.trans (hb2.mono HB0.out.size))
  have hsb := hb2.size
  clear hs2 hb2 HF Hr0 HB0
  go_wp2_with fail
  refine (l03Bent_any B _ _ bs w2 H2.out (by omega)).mono ?_; rintro e w3 ⟨⟨u, l, w, rs⟩, v, rfl, _, hl, ho, hs3, hg3⟩
  have hb3 := HB2.out.grown hg3 HB2.out.size (fun x hx => by cases hx; omega)
  have hr3 := (hg3.block _ (blk_ltN Hr2.out) (fun e => by injection e; omega)).trans Hr2.out
  obtain ⟨⟨r0, r1, r2, r3⟩, s0, s1, s2, s3⟩ := blk4 hr3
  have HD := Lib.hid (doneA hr3 hb3 (Nat.le_refl _) ho (by omega) (.int .i64 u) (.int .i64 l) (.int .i64 w) v)
  obtain ⟨A3, c3, rfl⟩ := own_sl ho
  clear hs3 hg3 hb3 hr3 H2 Hr2 HB2 ho
  go_wp2_with fail
  obtain ⟨⟨k0, k1, k2, k3⟩, hbz, hoz⟩ := HD.out
  refine bodyPost_ret (v := aggAb u l w (.slice A3 rs.length c3)) (by simp [results, Try.results38, go_sem, k0, k1, k2, k3]) rfl ?_
  exact ⟨⟨u, l, w, rs⟩, _, rfl, hl, hoz, hbz⟩
set_option maxRecDepth 100000 in
set_option maxHeartbeats 1600000 in
theorem drawAP_any (B : Nat) (cv : Value) (bs : List UInt8) (W : World) (h : Rd W B cv bs.length 1 (bs.map byV)) (hB : B ≤ W.heap.size) : Calls Try.prog 41 #[cv] W (RetCa W) := by
  have hb0 := (Below.refl W.heap.size W).alloc (Nat.le_refl _) objZ
  have Hr0 := Lib.hid (heap_alloc_new W (.cells #[.int .i64 0, .int .i64 0, .int .i64 0, .slice none 0 0] 52))
  have HB0 := Lib.hid hb0
  have HF := Lib.hid (l00From_any B cv bs (W.alloc objZ) (h.below (hb0.mono hB)) (Nat.le_trans hB hb0.size))
  have hz0 : W.heap.size < (W.alloc objZ).heap.size := by simp
  obtain ⟨_, A, c, rfl, _⟩ := h
  clear hb0
  go_enter Try.func41, Try.ntmps41
  go_wp2_with fail
  generalize W.alloc objZ = w1 at *
  refine HF.out.mono ?_; rintro e w2 ⟨rfl, hs2, hb2, hl2⟩
  have H2 := Lib.hid hs2
  have Hr2 := Lib.hid ((hb2.block _ (by omega)).trans Hr0.out)
  have HB2 := Lib.hid (HB0.out.trans (hb2.mono HB0.out.size))
  have hsb := hb2.size
  clear hs2 hb2 HF Hr0 HB0
  go_wp2_with fail
  refine (l03Bent_any B _ _ bs w2 H2.out (by omega)).mono ?_; rintro e w3 ⟨⟨u, l, w, rs⟩, v, rfl, _, hl, ho, hs3, hg3⟩
  have hb3 := HB2.out.grown hg3 HB2.out.size (fun x hx => by cases hx; omega)
  have hr3 := (hg3.block _ (blk_ltN Hr2.out) (fun e => by injection e; omega)).trans Hr2.out
  obtain ⟨⟨r0, r1, r2, r3⟩, s0, s1, s2, s3⟩ := blk4 hr3
  have HD := Lib.hid (doneA hr3 hb3 (Nat.le_refl _) ho (by omega) (.int .i64 u) (.int .i64 l) (.int .i64 w) v)
  obtain ⟨A3, c3, rfl⟩ := own_sl ho
  clear hs3 hg3 hb3 hr3 H2 Hr2 HB2 ho
  go_wp2_with fail
  obtain ⟨⟨k0, k1, k2, k3⟩, hbz, hoz⟩ := HD.out
  refine bodyPost_ret (v := aggAb u l w (.slice A3 rs.length c3)) (by simp [results, Try.results41, go_sem, k0, k1, k2, k3]) rfl ?_
  exact ⟨⟨u, l, w, rs⟩, _, rfl, hl, hoz, hbz⟩
end Go.Proofs.Ythemffbkkhaaoaa
/- Abaci: draws of two, from the code. -/
namespace Go.Proofs.Ythemffbkkhaaoaa
open Go.RowKit Go.Joins

/-- a draw from the code under way -/
structure CdA (W wx : World) (B g k : Nat) (bs : List UInt8) (q : Nat) (a b c v : Value) (n : Nat) (cs : List Value) : Prop where
  hr : wx.heap[W.heap.size]? = some (.cells #[.int .i64 0, .int .i64 0, .int .i64 0, .slice none 0 0] 52 (0, 0))
  src : SrcAt wx B g k bs
  hq : wx.heap[q]? = some (.cells #[a, b, c, v] 52 (0, 0))
  row : wx.ownsRow (g + 1) 143 2 v n cs
  rg : W.heap.size < g
  gq : g < q
  bel : Below W.heap.size W wx
theorem CdA.draw {W wx wy : World} {B g k k' q n : Nat} {bs : List UInt8} {a b c v : Value} {cs : List Value} (h : CdA W wx B g k bs q a b c v n cs) (hs : SrcAt wy B g k' bs) (hg : wx.grownBy wy (some g)) : CdA W wy B g k' bs q a b c v n cs :=
  have hq := blk_ltN h.hq
  have hr := blk_ltN h.hr
  ⟨(hg.block _ hr (fun e => by have := h.rg; injection e; omega)).trans h.hr, hs, (hg.block q hq (fun e => by have := h.gq; injection e; omega)).trans h.hq,
   h.row.kept hg (by
    cases hv : v.ownBlock with
    | none => exact .inl rfl
    | some x => exact .inr fun e => by have := (h.row.lt x hv).1; injection e; omega),
   h.rg, h.gq, h.bel.grown hg h.bel.size (fun x hx => by cases hx; exact Nat.le_of_lt h.rg)⟩
/-- an abacus and a value drawn from the code -/
def RetCs (W : World) (e : Ending) (w' : World) : Prop := ∃ (a : Ab) (v : Value) (x : Int), e = .returned (.tuple #[aggAb a.u a.l a.w v, .int .i64 x]) ∧ a.rods.length ≤ 11 ∧ Rd w' w'.heap.size v a.rods.length 2 (rodsC a.rods) ∧ Below W.heap.size W w'
set_option maxRecDepth 100000 in
set_option maxHeartbeats 3200000 in
theorem drawSA_any (B : Nat) (cv : Value) (bs : List UInt8) (W : World) (h : Rd W B cv bs.length 1 (bs.map byV)) (hB : B ≤ W.heap.size) : Calls Try.prog 32 #[cv] W (RetCs W) := by
  have hb0 := (Below.refl W.heap.size W).alloc (Nat.le_refl _) objZ
  have Hr0 := Lib.hid (heap_alloc_new W (.cells #[.int .i64 0, .int .i64 0, .int .i64 0, .slice none 0 0] 52))
  have HB0 := Lib.hid hb0
  have HF := Lib.hid (l00From_any B cv bs (W.alloc objZ) (h.below (hb0.mono hB)) (Nat.le_trans hB hb0.size))
  have hz0 : W.heap.size < (W.alloc objZ).heap.size := by simp
  obtain ⟨_, A, c, rfl, _⟩ := h
  clear hb0
  go_enter Try.func32, Try.ntmps32
  go_wp2_with fail
  generalize W.alloc objZ = w1 at *
  refine HF.out.mono ?_; rintro e w2 ⟨rfl, hs2, hb2, hl2⟩
  have H2 := Lib.hid hs2
  have Hr2 := Lib.hid ((hb2.block _ (by omega)).trans Hr0.out)
  have HB2 := Lib.hid (HB0.out.trans (hb2.mono HB0.out.size))
  have hsb := hb2.size
  clear hs2 hb2 HF Hr0 HB0
  go_wp2_with fail
  refine (l03Bent_any B _ _ bs w2 H2.out (by omega)).mono ?_; rintro e w3 ⟨⟨u, l, w, rs⟩, v, rfl, _, hl, ho, hs3, hg3⟩
  have hb3 := HB2.out.grown hg3 HB2.out.size (fun x hx => by cases hx; omega)
  have hr3 := (hg3.block _ (blk_ltN Hr2.out) (fun e => by injection e; omega)).trans Hr2.out
  have hba := (Below.refl w3.heap.size w3).alloc (Nat.le_refl _) (.cells #[.int .i64 u, .int .i64 l, .int .i64 w, v] 52)
  have hgz := hg3.size
  obtain ⟨A3, c3, rfl⟩ := own_sl ho
  have HN := Lib.hid (show CdA W (w3.alloc (.cells #[.int .i64 u, .int .i64 l, .int .i64 w, .slice A3 rs.length c3] 52)) B w1.heap.size _ bs w3.heap.size (.int .i64 u) (.int .i64 l) (.int .i64 w) (.slice A3 rs.length c3) rs.length (rodsC rs) from
    ⟨(hba.block _ (blk_ltN hr3)).trans hr3, hs3.below hba, heap_alloc_new w3 _, own_below (ownsRow_le ho (by omega)) hba, by omega, by omega, hb3.trans (hba.mono hb3.size)⟩)
  clear hs3 hg3 hb3 hr3 hba H2 Hr2 HB2 ho
  go_upto_region 3 with (fail)
  generalize w3.heap.size = q at *
  generalize w3.alloc (.cells #[.int .i64 u, .int .i64 l, .int .i64 w, .slice A3 rs.length c3] 52) = w4 at *
  clear hl2 hgz
  obtain ⟨⟨p0, p1, p2, p3⟩, _⟩ := blk4 HN.out.hq
  have HP := Lib.hid (l03DrawValue_any B _ _ bs w4.drew (SrcAt.drew HN.out.src) (by omega))
  refine wp_region_noPanic ?_
  refine wp_region_L [4,3] (fun w' => w'.cell? ⟨q, 0, none⟩ = some (.int .i64 u) ∧ w'.cell? ⟨q, 1, none⟩ = some (.int .i64 l) ∧ w'.cell? ⟨q, 2, none⟩ = some (.int .i64 w) ∧ w'.cell? ⟨q, 3, none⟩ = some (.slice A3 rs.length c3)) (by kernel_rfl) (⟨p0, p1, p2, p3⟩) (fun hHeld => ?_)
  refine take_L [0] (i := 0) (d := some 10) (v := ?_) (by kernel_rfl) (by kernel_rfl) (by kernel_rfl) (by kernel_rfl) rfl rfl (by kernel_rfl) (by kernel_rfl) (by kernel_rfl) (fun _ _ _ h => h) (Or.inl ⟨by rfl, ?_⟩) (by assumption) ?_
  rotate_left
  · (intro w hSw; (try dsimp only at hSw); go_simp; (try rw [if_neg (by omega)]); (try (with_reducible rfl)))
  simp only [Act.put, List.setIfInBounds_toArray, List.set_cons_zero, List.set_cons_succ]
  refine take_F (i := 1) (d := some 11) (v := ?_) (by kernel_rfl) (by kernel_rfl) rfl rfl (by kernel_rfl) (by kernel_rfl) (by kernel_rfl) (fun _ _ _ h => h) (Or.inl ⟨by rfl, ?_⟩) (by assumption) ?_
  rotate_left
  · (intro w hSw; (try dsimp only at hSw); go_simp; (try rw [if_neg (by omega)]); (try (with_reducible rfl)))
  simp only [Act.put, List.setIfInBounds_toArray, List.set_cons_zero, List.set_cons_succ]
  refine call_L (i := 2) (d := (some 12)) rfl rfl (by kernel_rfl) (fun Kq hKq => ?_)
  go_simp
  go_at_call 125
  refine HP.out.mono ?_; rintro e w5 ⟨x, rfl, hs5, hg5⟩
  have HN5 := Lib.hid (HN.out.draw hs5 (grown_undrew hg5))
  obtain ⟨⟨m0, m1, m2, m3⟩, _⟩ := blk4 HN5.out.hq
  obtain ⟨⟨r0, r1, r2, r3⟩, s0, s1, s2, s3⟩ := blk4 HN5.out.hr
  have HD := Lib.hid (doneA HN5.out.hr HN5.out.bel (Nat.le_refl _) HN5.out.row (by have := HN5.out.rg; omega) (.int .i64 u) (.int .i64 l) (.int .i64 w) (.slice A3 rs.length c3))
  clear hs5 hg5 p0 p1 p2 p3 HN HP
  (try go_wp2_with fail)
  refine hKq.out _ _ (⟨m0, m1, m2, m3⟩) (fun hHeld => ?_)
  clear hKq Kq
  (try simp only [Act.put, List.setIfInBounds_toArray, List.set_cons_zero, List.set_cons_succ])
  refine late_L (i := 3) (d := none) (by kernel_rfl) rfl rfl (by kernel_rfl) (fun Kq hKq => ?_)
  go_simp
  refine hKq.out _ _ ?_
  clear hKq Kq
  refine late_L (i := 4) (d := (some 3)) (by kernel_rfl) rfl rfl (by kernel_rfl) (fun Kq hKq => ?_)
  go_simp
  refine hKq.out _ _ ?_
  clear hKq Kq
  refine done_L (by kernel_rfl) ?_ _
  refine NoPanic.normal ?_
  go_wp2_with fail
  obtain ⟨⟨k0, k1, k2, k3⟩, hbz, hoz⟩ := HD.out
  refine bodyPost_ret (v := .tuple #[aggAb u l w (.slice A3 rs.length c3), .int .i64 x]) (by simp [results, Try.results32, go_sem, k0, k1, k2, k3]) rfl ?_
  exact ⟨⟨u, l, w, rs⟩, _, x, rfl, hl, hoz, hbz⟩
end Go.Proofs.Ythemffbkkhaaoaa
/- Abaci: a draw of two abaci. -/
namespace Go.Proofs.Ythemffbkkhaaoaa
open Go.RowKit Go.Joins

/-- rods that lie in blocks behind lo -/
def RdUp (wx : World) (lo : Nat) (v : Value) (n : Nat) (cs : List Value) : Prop := ∀ wy : World, wx.heap.size ≤ wy.heap.size → (∀ p : Addr, lo < p.block → p.block < wx.heap.size → wy.cell? p = wx.cell? p) → Rd wy wy.heap.size v n 2 cs
theorem up_own {wx : World} {base lo n : Nat} {e : TypeId} {v : Value} {cs : List Value} (h : wx.ownsRow base e 2 v n cs) (hl : lo < base) : RdUp wx lo v n cs := by
  intro wy hz hk
  obtain ⟨h1, A, c, rfl, h2⟩ := Rd.of_own h
  refine ⟨h1, A, c, rfl, fun h0 => ?_⟩
  obtain ⟨b, off, rfl, hb, hcc⟩ := h2 h0
  have hbb := (h.lt b rfl).1
  exact ⟨b, off, rfl, by omega, fun i u hu => (hk ⟨b, off + i, none⟩ (by show lo < b; omega) hb).trans (hcc i u hu)⟩
theorem up_tail {wx : World} {base lo n g cap cap' : Nat} {e : TypeId} {x : Int × Int} {rs : List (Int × Int)} (h : wx.ownsRow base e 2 (.slice (some ⟨g, 0, none⟩) n cap) n (rodsC (x :: rs))) (hl : lo < base) : RdUp wx lo (.slice (some ⟨g, 2, none⟩) rs.length cap') rs.length (rodsC rs) := by
  intro wy hz hk
  refine ⟨rodsC_len rs, some ⟨g, 2, none⟩, cap', rfl, fun _ => ?_⟩
  obtain ⟨hb1, hb2⟩ := h.lt g rfl
  refine ⟨g, 2, rfl, by omega, fun i u hu => ?_⟩
  have hc := h.cells (g := g) rfl (2 + i) u (by
    have e : rodsC (x :: rs) = .int .i64 x.1 :: .int .i64 x.2 :: rodsC rs := rfl
    rw [e, show 2 + i = i + 1 + 1 by omega]
    exact hu)
  have e0 : (⟨g, 0, none⟩ : Addr).add (2 + i) = ⟨g, 2 + i, none⟩ := by unfold Addr.add; split <;> simp_all
  rw [e0] at hc
  exact (hk ⟨g, 2 + i, none⟩ (by show lo < g; omega) hb2).trans hc
theorem own_posA {w : World} {base n size : Nat} {e : TypeId} {v : Value} {cs : List Value} (h : w.ownsRow base e size v n cs) (hn : 0 < n) : ∃ g cap, v = .slice (some ⟨g, 0, none⟩) n cap ∧ n ≤ cap ∧ cap ≤ maxLen := by
  rcases h.2 with ⟨_, h0⟩ | ⟨g, cap, cur, rfl, _, _, h1, h2, _⟩
  · omega
  · exact ⟨g, cap, rfl, h1, h2⟩
/-- two abaci drawn from the code -/
def RetC2 (W : World) (e : Ending) (w' : World) : Prop := ∃ (a b : Ab) (va vb : Value), e = .returned (.tuple #[aggAb a.u a.l a.w va, aggAb b.u b.l b.w vb]) ∧ a.rods.length ≤ 11 ∧ b.rods.length ≤ 11 ∧ Rd w' w'.heap.size va a.rods.length 2 (rodsC a.rods) ∧ Rd w' w'.heap.size vb b.rods.length 2 (rodsC b.rods) ∧ Below W.heap.size W w'
/-- the two results lie in two blocks -/
structure Cd2 (W wx : World) (qa qb : Nat) (u l w w' : Int) (va vb : Value) (n n' : Nat) (cs cs' : List Value) : Prop where
  r1 : wx.heap[W.heap.size]? = some (.cells #[.int .i64 0, .int .i64 0, .int .i64 0, .slice none 0 0] 52 (0, 0))
  r2 : wx.heap[W.heap.size + 1]? = some (.cells #[.int .i64 0, .int .i64 0, .int .i64 0, .slice none 0 0] 52 (0, 0))
  ha : wx.heap[qa]? = some (.cells #[.int .i64 u, .int .i64 l, .int .i64 w, va] 52 (0, 0))
  hb : wx.heap[qb]? = some (.cells #[.int .i64 u, .int .i64 l, .int .i64 w', vb] 52 (0, 0))
  ua : RdUp wx (W.heap.size + 1) va n cs
  ub : RdUp wx (W.heap.size + 1) vb n' cs'
  la : W.heap.size + 1 < qa
  ab : qa < qb
  bel : Below W.heap.size W wx
abbrev cell4 (w : World) (r : Nat) (a b c d : Value) : Prop := w.cell? ⟨r, 0, none⟩ = some a ∧ w.cell? ⟨r, 1, none⟩ = some b ∧ w.cell? ⟨r, 2, none⟩ = some c ∧ w.cell? ⟨r, 3, none⟩ = some d
theorem put4_heap {w : World} {r q : Nat} {o : Obj} (h : w.heap[q]? = some o) (hq : q ≠ r) (a b c d : Value) : (put4 w r a b c d).heap[q]? = some o :=
  blk_setOther (blk_setOther (blk_setOther (blk_setOther h hq a) hq b) hq c) hq d
theorem put4_same {w : World} {r : Nat} {x y z u : Value} {t : TypeId} (h : w.heap[r]? = some (.cells #[x, y, z, u] t (0, 0))) (a b c d : Value) : (put4 w r a b c d).heap[r]? = some (.cells #[a, b, c, d] t (0, 0)) :=
  heap_setCell_same _ r 3 _ _ d (heap_setCell_same _ r 2 _ _ c (heap_setCell_same _ r 1 _ _ b (heap_setCell_same w r 0 _ _ a h)))
theorem put4_cell {w : World} {r : Nat} {p : Addr} (hp : p.block ≠ r) (a b c d : Value) : (put4 w r a b c d).cell? p = w.cell? p := by
  have h : ∀ (w0 : World) (i : Nat) (x : Value), (w0.setCell ⟨r, i, none⟩ x).cell? p = w0.cell? p := fun w0 i x => World.cell?_of_block (by
    show (w0.heap.modify r _)[p.block]? = _
    rw [Array.getElem?_modify, if_neg (fun e => hp e.symm)])
  exact (((h _ 3 d).trans (h _ 2 c)).trans (h _ 1 b)).trans (h _ 0 a)
theorem put4_below {B : Nat} {W w : World} (h : Below B W w) {r : Nat} (hr : B ≤ r) (a b c d : Value) : Below B W (put4 w r a b c d) :=
  (((h.setCell (p := ⟨r, 0, none⟩) hr a).setCell (p := ⟨r, 1, none⟩) hr b).setCell (p := ⟨r, 2, none⟩) hr c).setCell (p := ⟨r, 3, none⟩) hr d
/-- the first result is written -/
structure Md2 (W wx : World) (qa qb : Nat) (u l w w' : Int) (va vb : Value) (n n' : Nat) (cs cs' : List Value) : Prop where
  r1 : wx.heap[W.heap.size]? = some (.cells #[.int .i64 u, .int .i64 l, .int .i64 w, va] 52 (0, 0))
  r2 : wx.heap[W.heap.size + 1]? = some (.cells #[.int .i64 0, .int .i64 0, .int .i64 0, .slice none 0 0] 52 (0, 0))
  ha : wx.heap[qa]? = some (.cells #[.int .i64 u, .int .i64 l, .int .i64 w, va] 52 (0, 0))
  hb : wx.heap[qb]? = some (.cells #[.int .i64 u, .int .i64 l, .int .i64 w', vb] 52 (0, 0))
  ua : RdUp wx (W.heap.size + 1) va n cs
  ub : RdUp wx (W.heap.size + 1) vb n' cs'
  bel : Below W.heap.size W wx
theorem Cd2.mid {W wx : World} {qa qb : Nat} {u l w w' : Int} {va vb : Value} {n n' : Nat} {cs cs' : List Value} (h : Cd2 W wx qa qb u l w w' va vb n n' cs cs') : Md2 W (put4 wx W.heap.size (.int .i64 u) (.int .i64 l) (.int .i64 w) va) qa qb u l w w' va vb n n' cs cs' := by
  have hla := h.la
  have hab := h.ab
  have hz : (put4 wx W.heap.size (.int .i64 u) (.int .i64 l) (.int .i64 w) va).heap.size = wx.heap.size := by simp [World.setCell]
  have hu : ∀ {v : Value} {m : Nat} {ds : List Value}, RdUp wx (W.heap.size + 1) v m ds → RdUp (put4 wx W.heap.size (.int .i64 u) (.int .i64 l) (.int .i64 w) va) (W.heap.size + 1) v m ds := fun h0 wy hy hk =>
    h0 wy (by omega) (fun p hp hl => (hk p hp (by omega)).trans (put4_cell (by omega) _ _ _ _))
  exact ⟨put4_same h.r1 _ _ _ _, put4_heap h.r2 (by omega) _ _ _ _, put4_heap h.ha (by omega) _ _ _ _, put4_heap h.hb (by omega) _ _ _ _, hu h.ua, hu h.ub, put4_below h.bel (Nat.le_refl _) _ _ _ _⟩
theorem Md2.drew {W wx : World} {qa qb : Nat} {u l w w' : Int} {va vb : Value} {n n' : Nat} {cs cs' : List Value} (h : Md2 W wx qa qb u l w w' va vb n n' cs cs') : Md2 W wx.drew qa qb u l w w' va vb n n' cs cs' :=
  ⟨h.r1, h.r2, h.ha, h.hb, h.ua, h.ub, h.bel.drew⟩
theorem Md2.done {W wx : World} {qa qb : Nat} {u l w w' : Int} {va vb : Value} {n n' : Nat} {cs cs' : List Value} (h : Md2 W wx qa qb u l w w' va vb n n' cs cs') :
    cell4 (put4 wx (W.heap.size + 1) (.int .i64 u) (.int .i64 l) (.int .i64 w') vb) W.heap.size (.int .i64 u) (.int .i64 l) (.int .i64 w) va ∧
    cell4 (put4 wx (W.heap.size + 1) (.int .i64 u) (.int .i64 l) (.int .i64 w') vb) (W.heap.size + 1) (.int .i64 u) (.int .i64 l) (.int .i64 w') vb ∧
    Rd (put4 wx (W.heap.size + 1) (.int .i64 u) (.int .i64 l) (.int .i64 w') vb) (put4 wx (W.heap.size + 1) (.int .i64 u) (.int .i64 l) (.int .i64 w') vb).heap.size va n 2 cs ∧
    Rd (put4 wx (W.heap.size + 1) (.int .i64 u) (.int .i64 l) (.int .i64 w') vb) (put4 wx (W.heap.size + 1) (.int .i64 u) (.int .i64 l) (.int .i64 w') vb).heap.size vb n' 2 cs' ∧
    Below W.heap.size W (put4 wx (W.heap.size + 1) (.int .i64 u) (.int .i64 l) (.int .i64 w') vb) := by
  have hz : (put4 wx (W.heap.size + 1) (.int .i64 u) (.int .i64 l) (.int .i64 w') vb).heap.size = wx.heap.size := by simp [World.setCell]
  have hk : ∀ p : Addr, W.heap.size + 1 < p.block → p.block < wx.heap.size → (put4 wx (W.heap.size + 1) (.int .i64 u) (.int .i64 l) (.int .i64 w') vb).cell? p = wx.cell? p := fun p hp _ => put4_cell (by omega) _ _ _ _
  exact ⟨(blk4 (put4_heap h.r1 (by omega) _ _ _ _)).1, (blk4 (put4_same h.r2 _ _ _ _)).1, h.ua _ (by omega) hk, h.ub _ (by omega) hk, put4_below h.bel (by omega) _ _ _ _⟩
theorem Cd2.drew {W wx : World} {qa qb : Nat} {u l w w' : Int} {va vb : Value} {n n' : Nat} {cs cs' : List Value} (h : Cd2 W wx qa qb u l w w' va vb n n' cs cs') : Cd2 W wx.drew qa qb u l w w' va vb n n' cs cs' :=
  ⟨h.r1, h.r2, h.ha, h.hb, h.ua, h.ub, h.la, h.ab, h.bel.drew⟩
set_option maxRecDepth 100000 in
set_option maxHeartbeats 6400000 in
theorem drawSM_any (B : Nat) (cv : Value) (bs : List UInt8) (W : World) (h : Rd W B cv bs.length 1 (bs.map byV)) (hB : B ≤ W.heap.size) : Calls Try.prog 44 #[cv] W (RetC2 W) := by
  obtain ⟨h1, h2, h3⟩ := two_blocks W #[.int .i64 0, .int .i64 0, .int .i64 0, .slice none 0 0] #[.int .i64 0, .int .i64 0, .int .i64 0, .slice none 0 0] 52 52
  have R1 := Lib.hid h1
  have R2 := Lib.hid h2
  have HB0 := Lib.hid h3
  have HF := Lib.hid (l00From_any B cv bs ((W.alloc objZ).alloc objZ) (h.below (h3.mono hB)) (Nat.le_trans hB h3.size))
  have hz0 : W.heap.size + 1 < ((W.alloc objZ).alloc objZ).heap.size := by simp
  obtain ⟨_, A, c, rfl, _⟩ := h
  clear h1 h2 h3
  go_enter Try.func44, Try.ntmps44
  go_wp2_with fail
  generalize (W.alloc objZ).alloc objZ = w1 at *
  refine HF.out.mono ?_; rintro e w2 ⟨rfl, hs2, hb2, hl2⟩
  have H2 := Lib.hid hs2
  have hsb := hb2.size
  have R12 := Lib.hid ((hb2.block _ (by omega)).trans R1.out)
  have R22 := Lib.hid ((hb2.block _ (by omega)).trans R2.out)
  have HB2 := Lib.hid (HB0.out.trans (hb2.mono HB0.out.size))
  clear hs2 hb2 HF R1 R2 HB0
  go_wp2_with fail
  refine (l03Draw_any B _ _ bs w2 H2.out (by omega)).mono ?_; rintro e w3 ⟨⟨u, l, w, rs⟩, v, rfl, ⟨hkd, hln⟩, hl11, ho, hs3, hg3⟩
  obtain ⟨_, _, _, _, w1', w10, _, _⟩ := kind_bd hkd
  dsimp only at hln hl11 w1' w10
  have hb3 := HB2.out.grown hg3 HB2.out.size (fun x hx => by cases hx; omega)
  have r13 := (hg3.block _ (blk_ltN R12.out) (fun e => by injection e; omega)).trans R12.out
  have r23 := (hg3.block _ (blk_ltN R22.out) (fun e => by injection e; omega)).trans R22.out
  have hba := (Below.refl w3.heap.size w3).alloc (Nat.le_refl _) (.cells #[.int .i64 u, .int .i64 l, .int .i64 w, v] 52)
  have hgz := hg3.size
  obtain ⟨gg, cc, rfl⟩ := ownsRow_form ho hln
  have hgq := (ho.lt gg rfl).2
  have HQa := Lib.hid (heap_alloc_new w3 (.cells #[.int .i64 u, .int .i64 l, .int .i64 w, .slice (some ⟨gg, 0, none⟩) rs.length cc] 52))
  have R14 := Lib.hid ((hba.block _ (blk_ltN r13)).trans r13)
  have R24 := Lib.hid ((hba.block _ (blk_ltN r23)).trans r23)
  have Hrow := Lib.hid (own_below ho hba)
  have HS4 := Lib.hid (hs3.below hba)
  have HB4 := Lib.hid (hb3.trans (hba.mono hb3.size))
  clear hs3 hg3 hb3 r13 r23 hba H2 R12 R22 HB2 ho hkd
  go_upto_region 3 with (fail)
  have hz4 : w3.heap.size < (w3.alloc (.cells #[.int .i64 u, .int .i64 l, .int .i64 w, .slice (some ⟨gg, 0, none⟩) rs.length cc] 52)).heap.size := by simp
  generalize w3.alloc (.cells #[.int .i64 u, .int .i64 l, .int .i64 w, .slice (some ⟨gg, 0, none⟩) rs.length cc] 52) = w4 at *
  have HO := Lib.hid (l03Own_any w4.heap.size w3.heap.size rs.length u l w (.slice (some ⟨gg, 0, none⟩) rs.length cc) (rodsC rs) w4 (AbAt.of HQa.out) (Rd.of_own Hrow.out) (Nat.le_refl _) hln (by omega) (rodsC_one rs))
  have hq3 : w2.heap.size ≤ w3.heap.size := hgz
  generalize w3.heap.size = qa at *
  go_wp2_with fail
  refine HO.out.mono ?_; rintro e w5 ⟨g5, c5, rfl, ho5, hb5⟩
  have hbb := (Below.refl w5.heap.size w5).alloc (Nat.le_refl _) (.cells #[.int .i64 u, .int .i64 l, .int .i64 w, .slice (some ⟨g5, 0, none⟩) rs.length c5] 52)
  have hs5 := hb5.size
  have hg5 := (ho5.lt g5 rfl).1
  have hbx := hb5.trans (hbb.mono hs5)
  have HQa6 := Lib.hid ((hbx.block _ (blk_ltN HQa.out)).trans HQa.out)
  have HQb6 := Lib.hid (heap_alloc_new w5 (.cells #[.int .i64 u, .int .i64 l, .int .i64 w, .slice (some ⟨g5, 0, none⟩) rs.length c5] 52))
  have R16 := Lib.hid ((hbx.block _ (blk_ltN R14.out)).trans R14.out)
  have R26 := Lib.hid ((hbx.block _ (blk_ltN R24.out)).trans R24.out)
  have Hra6 := Lib.hid (own_below Hrow.out hbx)
  have Hrb6 := Lib.hid (own_below ho5 hbb)
  have HS6 := Lib.hid (HS4.out.below hbx)
  have HB6 := Lib.hid (HB4.out.trans (hbx.mono HB4.out.size))
  clear hb5 hbb hbx HQa R14 R24 Hrow HS4 HB4 ho5 HO
  go_upto_region 4 with (fail)
  generalize w5.alloc (.cells #[.int .i64 u, .int .i64 l, .int .i64 w, .slice (some ⟨g5, 0, none⟩) rs.length c5] 52) = w6 at *
  generalize w5.heap.size = qb at *
  go_wp2_with fail
  refine (pick_any B _ _ bs 5 w6 HS6.out (by omega)).mono ?_; rintro e w7 ⟨x, rfl, ⟨hx0, hx1, _⟩, hs7, hg7⟩
  have keep := fun q (hq : q < w6.heap.size) (hne : q ≠ w1.heap.size) => hg7.block q hq (fun e => hne (by injection e))
  have HQa7 := Lib.hid ((keep _ (blk_ltN HQa6.out) (by omega)).trans HQa6.out)
  have HQb7 := Lib.hid ((keep _ (blk_ltN HQb6.out) (by omega)).trans HQb6.out)
  have R17 := Lib.hid ((keep _ (blk_ltN R16.out) (by omega)).trans R16.out)
  have R27 := Lib.hid ((keep _ (blk_ltN R26.out) (by omega)).trans R26.out)
  have Hra7 := Lib.hid (Hra6.out.kept hg7 (.inr (fun e => by have := (Hra6.out.lt gg rfl).1; have e2 : gg = w1.heap.size := (by injection e); omega)))
  have Hrb7 := Lib.hid (Hrb6.out.kept hg7 (.inr (fun e => by have := (Hrb6.out.lt g5 rfl).1; have e2 : g5 = w1.heap.size := (by injection e); omega)))
  have HB7 := Lib.hid (HB6.out.grown hg7 HB6.out.size (fun x hx => by cases hx; omega))
  clear hs7 hg7 hx1 keep HQa6 HQb6 R16 R26 Hra6 Hrb6 HS6 HB6
  have hgg : gg ≠ g5 := by omega
  go_upto_block 0 with (fail)
  have hwW : IntKind.i64.wrap (w + 1) = w + 1 := IntWalk.i64_in _ (by omega)
  go_cut [] (fun wx => ∃ (w' : Int) (vb : Value) (rs' : List (Int × Int)), rs'.length ≤ 11 ∧ Cd2 W wx qa qb u l w w' (.slice (some ⟨gg, 0, none⟩) rs.length cc) vb rs.length rs'.length (rodsC rs) (rodsC rs'))
  case first =>
    obtain ⟨⟨q0, q1, q2, q3⟩, f0, f1, f2, f3⟩ := blk4 HQb7.out
    by_cases e0 : x = 0
    · subst e0
      have HE := Lib.hid (show Cd2 W (w7.setCell ⟨qb, 2, none⟩ (.int .i64 (w + 1))) qa qb u l w (w + 1) (.slice (some ⟨gg, 0, none⟩) rs.length cc) (.slice (some ⟨g5, 0, none⟩) rs.length c5) rs.length rs.length (rodsC rs) (rodsC rs) from
        ⟨blk_setOther R17.out (by omega) _, blk_setOther R27.out (by omega) _, blk_setOther HQa7.out (by omega) _, heap_setCell_same w7 qb 2 _ _ _ HQb7.out,
         up_own (ownsRow_setCell_other Hra7.out (a := ⟨qb, 2, none⟩) (rod_ne Hra7.out HQb7.out) _) (by omega), up_own (ownsRow_setCell_other Hrb7.out (a := ⟨qb, 2, none⟩) (rod_ne Hrb7.out HQb7.out) _) (by omega), by omega, by omega, HB7.out.setCell (p := ⟨qb, 2, none⟩) (by show W.heap.size ≤ qb; omega) _⟩)
      go_wp2_with fail
      go_meet
      exact ⟨w + 1, _, rs, hl11, HE.out⟩
    have b0 : (x == 0) = false := by simpa using e0
    by_cases e1 : x = 1
    · subst e1
      obtain ⟨⟨x0, x1⟩, rs', hrs⟩ : ∃ y ys, rs = y :: ys := by cases rs with | nil => exact absurd hln (by simp) | cons y ys => exact ⟨y, ys, rfl⟩
      obtain ⟨z, hz⟩ : ∃ z, IntKind.i64.wrap (x0 + 1) = z := ⟨_, rfl⟩
      have hlc := rodsC_len rs
      obtain ⟨ho1, o1, f1'⟩ := own_put Hrb7.out 0 (by omega) (.int .i64 z)
      have o2 : w7.cell? ⟨g5, 0, none⟩ = some (.int .i64 x0) := by rw [o1]; subst hrs; rfl
      have hset : (rodsC rs).set 0 (.int .i64 z) = rodsC ((z, x1) :: rs') := by subst hrs; rfl
      have hl' : rs.length = ((z, x1) :: rs').length := by subst hrs; rfl
      have hn' : (0 : Int) < (rs.length : Int) := by omega
      rw [hset] at ho1
      have HE := Lib.hid (show Cd2 W (w7.setCell ⟨g5, 0, none⟩ (.int .i64 z)) qa qb u l w w (.slice (some ⟨gg, 0, none⟩) rs.length cc) (.slice (some ⟨g5, 0, none⟩) rs.length c5) rs.length ((z, x1) :: rs').length (rodsC rs) (rodsC ((z, x1) :: rs')) from
        ⟨blk_setOther R17.out (by omega) _, blk_setOther R27.out (by omega) _, blk_setOther HQa7.out (fun e => rod_ne Hrb7.out HQa7.out (by rw [e]; rfl)) _, blk_setOther HQb7.out (fun e => rod_ne Hrb7.out HQb7.out (by rw [e]; rfl)) _,
         up_own (ownsRow_setCell_other Hra7.out (a := ⟨g5, 0, none⟩) (fun e => hgg (by injection e)) _) (by omega), by rw [← hl']; exact up_own ho1 (by omega), by omega, by omega, HB7.out.setCell (p := ⟨g5, 0, none⟩) (by show W.heap.size ≤ g5; omega) _⟩)
      have Hl := Lib.hid hl'
      clear o1 ho1 hset hlc hrs hl'
      go_wp2_with fail
      go_meet
      exact ⟨w, _, (z, x1) :: rs', by rw [← Hl.out]; exact hl11, HE.out⟩
    have b1 : (x == 1) = false := by simpa using e1
    by_cases e2 : x = 2
    · subst e2
      obtain ⟨y, rs', hrs⟩ : ∃ y ys, rs = y :: ys := by cases rs with | nil => exact absurd hln (by simp) | cons y ys => exact ⟨y, ys, rfl⟩
      have hn' : (1 : Int) ≤ (rs.length : Int) := by omega
      obtain ⟨_, cp, hcv, hcp1, hcp2⟩ := own_posA Hrb7.out hln
      have hcc5 : c5 = cp := by injection hcv
      subst hcc5
      clear hcv
      have hcp3 : (rs.length : Int) ≤ (c5 : Int) := by omega
      by_cases hc1 : c5 = 1
      · subst hc1
        have hr0 : rs' = [] := List.eq_nil_of_length_eq_zero (by rw [hrs] at hcp1; simp at hcp1; simpa using hcp1)
        have HE := Lib.hid (show Cd2 W (w7.setCell ⟨qb, 3, none⟩ (.slice (some ⟨g5, 0, none⟩) rs'.length 0)) qa qb u l w w (.slice (some ⟨gg, 0, none⟩) rs.length cc) (.slice (some ⟨g5, 0, none⟩) rs'.length 0) rs.length rs'.length (rodsC rs) (rodsC rs') from
          ⟨blk_setOther R17.out (by omega) _, blk_setOther R27.out (by omega) _, blk_setOther HQa7.out (by omega) _, heap_setCell_same w7 qb 3 _ _ _ HQb7.out,
           up_own (ownsRow_setCell_other Hra7.out (a := ⟨qb, 3, none⟩) (rod_ne Hra7.out HQb7.out) _) (by omega), fun wy _ _ => by subst hr0; exact ⟨rfl, _, _, rfl, fun h => absurd h (by simp)⟩, by omega, by omega, HB7.out.setCell (p := ⟨qb, 3, none⟩) (by show W.heap.size ≤ qb; omega) _⟩)
        have hrl : rs'.length ≤ 11 := by rw [hr0]; simp
        clear hr0
        go_wp2_with fail
        go_meet
        exact ⟨w, _, rs', hrl, HE.out⟩
      · have HE := Lib.hid (show Cd2 W (w7.setCell ⟨qb, 3, none⟩ (.slice (some ⟨g5, 2, none⟩) rs'.length (c5 - 1))) qa qb u l w w (.slice (some ⟨gg, 0, none⟩) rs.length cc) (.slice (some ⟨g5, 2, none⟩) rs'.length (c5 - 1)) rs.length rs'.length (rodsC rs) (rodsC rs') from
          ⟨blk_setOther R17.out (by omega) _, blk_setOther R27.out (by omega) _, blk_setOther HQa7.out (by omega) _, heap_setCell_same w7 qb 3 _ _ _ HQb7.out,
           up_own (ownsRow_setCell_other Hra7.out (a := ⟨qb, 3, none⟩) (rod_ne Hra7.out HQb7.out) _) (by omega), up_tail (x := y) (rs := rs') (by rw [← hrs]; exact ownsRow_setCell_other Hrb7.out (a := ⟨qb, 3, none⟩) (rod_ne Hrb7.out HQb7.out) _) (by omega), by omega, by omega, HB7.out.setCell (p := ⟨qb, 3, none⟩) (by show W.heap.size ≤ qb; omega) _⟩)
        have hrl : rs'.length ≤ 11 := by rw [hrs] at hl11; simp at hl11; omega
        go_wp2_with fail
        go_meet
        exact ⟨w, _, rs', hrl, HE.out⟩
    · have b2 : (x == 2) = false := by simpa using e2
      have HE := Lib.hid (show Cd2 W w7 qa qb u l w w (.slice (some ⟨gg, 0, none⟩) rs.length cc) (.slice (some ⟨g5, 0, none⟩) rs.length c5) rs.length rs.length (rodsC rs) (rodsC rs) from
        ⟨R17.out, R27.out, HQa7.out, HQb7.out, up_own Hra7.out (by omega), up_own Hrb7.out (by omega), by omega, by omega, HB7.out⟩)
      go_wp2_with fail
      go_meet
      exact ⟨w, _, rs, hl11, HE.out⟩
  case rest =>
    obtain ⟨w', vb, rs', hl', hc⟩ := hcut
    rename World => wx
    obtain ⟨_, Ab', cb', rfl, _⟩ := hc.ub wx (Nat.le_refl _) (fun _ _ _ => rfl)
    have HM := Lib.hid hc.mid.drew
    obtain ⟨⟨p0, p1, p2, p3⟩, f0, f1, f2, f3⟩ := blk4 hc.r1
    obtain ⟨⟨a0, a1, a2, a3⟩, _⟩ := blk4 hc.ha
    obtain ⟨⟨b0, b1, b2, b3⟩, _⟩ := blk4 hc.hb
    clear hc HQa7 HQb7 R17 R27 Hra7 Hrb7 HB7
    go_upto_region 11 with (fail)
    refine wp_region_noPanic ?_
    refine wp_region_L [3] (fun w0 => cell4 w0 qa (.int .i64 u) (.int .i64 l) (.int .i64 w) (.slice (some ⟨gg, 0, none⟩) rs.length cc) ∧ cell4 w0 qb (.int .i64 u) (.int .i64 l) (.int .i64 w') (.slice Ab' rs'.length cb')) (by kernel_rfl) (⟨⟨a0, a1, a2, a3⟩, ⟨b0, b1, b2, b3⟩⟩) (fun hHeld => ?_)
    refine take_L [0] (i := 0) (d := some 36) (v := ?_) (by kernel_rfl) (by kernel_rfl) (by kernel_rfl) (by kernel_rfl) rfl rfl (by kernel_rfl) (by kernel_rfl) (by kernel_rfl) (fun _ _ _ h => h) (Or.inl ⟨by rfl, ?_⟩) (by assumption) ?_
    rotate_left
    · (intro w hSw; (try dsimp only at hSw); go_simp; (try rw [if_neg (by omega)]); (try (with_reducible rfl)))
    simp only [Act.put, List.setIfInBounds_toArray, List.set_cons_zero, List.set_cons_succ]
    refine take_L [1] (i := 1) (d := some 37) (v := ?_) (by kernel_rfl) (by kernel_rfl) (by kernel_rfl) (by kernel_rfl) rfl rfl (by kernel_rfl) (by kernel_rfl) (by kernel_rfl) (fun _ _ _ h => h) (Or.inl ⟨by rfl, ?_⟩) (by assumption) ?_
    rotate_left
    · (intro w hSw; (try dsimp only at hSw); go_simp; (try rw [if_neg (by omega)]); (try (with_reducible rfl)))
    simp only [Act.put, List.setIfInBounds_toArray, List.set_cons_zero, List.set_cons_succ]
    refine call_L (i := 2) (d := none) rfl rfl (by kernel_rfl) (fun Kq hKq => ?_)
    go_simp
    clear p0 p1 p2 p3 f0 f1 f2 f3 a0 a1 a2 a3 b0 b1 b2 b3
    generalize ((((wx.setCell ⟨W.heap.size, 0, none⟩ (.int .i64 u)).setCell ⟨W.heap.size, 1, none⟩ (.int .i64 l)).setCell ⟨W.heap.size, 2, none⟩ (.int .i64 w)).setCell ⟨W.heap.size, 3, none⟩ (.slice (some ⟨gg, 0, none⟩) rs.length cc)).drew = w8 at *
    have c8 := (blk4 HM.out.ha).1
    have d8 := (blk4 HM.out.hb).1
    obtain ⟨⟨m0, m1, m2, m3⟩, g0, g1, g2, g3⟩ := blk4 HM.out.r2
    refine hKq.out _ _ (⟨c8, d8⟩) (fun hHeld => ?_)
    clear hKq Kq
    (try simp only [Act.put, List.setIfInBounds_toArray, List.set_cons_zero, List.set_cons_succ])
    clear c8 d8
    refine late_L (i := 3) (d := none) (by kernel_rfl) rfl rfl (by kernel_rfl) (fun Kq hKq => ?_)
    go_simp
    refine hKq.out _ _ ?_
    clear hKq Kq
    refine done_L (by kernel_rfl) ?_ _
    refine NoPanic.normal ?_
    go_wp2_with fail
    obtain ⟨⟨k0, k1, k2, k3⟩, ⟨j0, j1, j2, j3⟩, hr1, hr2, hbz⟩ := HM.out.done
    refine bodyPost_ret (v := .tuple #[aggAb u l w (.slice (some ⟨gg, 0, none⟩) rs.length cc), aggAb u l w' (.slice Ab' rs'.length cb')]) (by simp [results, Try.results44, go_sem, k0, k1, k2, k3, j0, j1, j2, j3]) rfl ?_
    exact ⟨⟨u, l, w, rs⟩, ⟨u, l, w', rs'⟩, _, _, rfl, hl11, hl', hr1, hr2, hbz⟩
end Go.Proofs.Ythemffbkkhaaoaa
/- Abaci: equal abaci, both sides. -/
namespace Go.Proofs.Ythemffbkkhaaoaa
open Go.RowKit Go.Joins

theorem ret_boolA {a b : Bool} (h : a = b) : Ending.returned (.bool a) = .returned (.bool b) := by rw [h]
def sameB (a b : Ab) : Bool := (a.u == b.u) && (a.l == b.l) && (a.w == b.w) && (a.rods.length == b.rods.length)
def sameAb (a b : Ab) : Bool := sameB a b && decide (a.rods = b.rods)
theorem sameB_cases (u l w u' l' w' : Int) (rs rs' : List (Int × Int)) :
    ((u != u') = true ∧ sameB ⟨u, l, w, rs⟩ ⟨u', l', w', rs'⟩ = false) ∨ (u = u' ∧ (l != l') = true ∧ sameB ⟨u, l, w, rs⟩ ⟨u', l', w', rs'⟩ = false) ∨ (u = u' ∧ l = l' ∧ (w != w') = true ∧ sameB ⟨u, l, w, rs⟩ ⟨u', l', w', rs'⟩ = false) ∨
    (u = u' ∧ l = l' ∧ w = w' ∧ rs.length ≠ rs'.length ∧ sameB ⟨u, l, w, rs⟩ ⟨u', l', w', rs'⟩ = false) ∨ (u = u' ∧ l = l' ∧ w = w' ∧ rs.length = rs'.length ∧ sameB ⟨u, l, w, rs⟩ ⟨u', l', w', rs'⟩ = true) := by
  unfold sameB
  dsimp only
  by_cases h1 : u = u'
  · by_cases h2 : l = l'
    · by_cases h3 : w = w'
      · by_cases h4 : rs.length = rs'.length
        · exact .inr (.inr (.inr (.inr ⟨h1, h2, h3, h4, by simp [h1, h2, h3, h4]⟩)))
        · exact .inr (.inr (.inr (.inl ⟨h1, h2, h3, h4, by simp [h4]⟩)))
      · exact .inr (.inr (.inl ⟨h1, h2, by simpa using h3, by simp [h3]⟩))
    · exact .inr (.inl ⟨h1, by simpa using h2, by simp [h2]⟩)
  · exact .inl ⟨by simpa using h1, by simp [h1]⟩
theorem sameAb_no {a b : Ab} (h : sameB a b = false) : sameAb a b = false := by unfold sameAb; rw [h]; rfl
theorem rods_ne {rs rs' : List (Int × Int)} {k : Nat} (hk : k < rs.length) (hk' : k < rs'.length) (h : rs[k] ≠ rs'[k]) : decide (rs = rs') = false := by
  apply decide_eq_false
  intro e
  subst e
  exact h rfl
theorem take_eq_succ {rs rs' : List (Int × Int)} {k : Nat} (hk : k < rs.length) (hk' : k < rs'.length) (h : rs.take k = rs'.take k) (he : rs[k] = rs'[k]) : rs.take (k + 1) = rs'.take (k + 1) := by
  rw [List.take_succ_eq_append_getElem hk, List.take_succ_eq_append_getElem hk', h, he]
set_option maxRecDepth 100000 in
set_option maxHeartbeats 3200000 in
theorem l03Same_any (B1 B2 q1 q2 : Nat) (u l w u' l' w' : Int) (v v' : Value) (rs rs' : List (Int × Int)) (W : World) (ha : AbAt W q1 u l w v) (hr : Rd W B1 v rs.length 2 (rodsC rs)) (ha' : AbAt W q2 u' l' w' v') (hr' : Rd W B2 v' rs'.length 2 (rodsC rs')) (hm : rs.length ≤ 1048576) (hm' : rs'.length ≤ 1048576) :
    Calls Try.prog 137 #[.pointer (some ⟨q1, 0, none⟩), .pointer (some ⟨q2, 0, none⟩)] W fun e w'' => e = .returned (.bool (sameAb ⟨u, l, w, rs⟩ ⟨u', l', w', rs'⟩)) ∧ ∃ n, w'' = W.drewN n := by
  have HA := Lib.hid ha
  have HA' := Lib.hid ha'
  have H := Lib.hid hr
  have H' := Lib.hid hr'
  obtain ⟨_, A, c, rfl, _⟩ := hr
  obtain ⟨_, A', c', rfl, _⟩ := hr'
  obtain ⟨a0, a1, a2, a3⟩ := ha
  obtain ⟨b0, b1, b2, b3⟩ := ha'
  have HN := Lib.hid (fun h => sameAb_no (a := ⟨u, l, w, rs⟩) (b := ⟨u', l', w', rs'⟩) h)
  rcases sameB_cases u l w u' l' w' rs rs' with ⟨g1, g5⟩ | ⟨rfl, g1, g5⟩ | ⟨rfl, rfl, g1, g5⟩ | ⟨rfl, rfl, rfl, g1, g5⟩ | ⟨rfl, rfl, rfl, g1, g5⟩
  · rw [HN.out g5]
    clear g5 HN HA HA'
    go_enter Try.func137, Try.ntmps137
    go_wp2_with fail
    go_quiet (fail)
    go_wp2_with fail
    go_ret
    exact ⟨rfl, _, rfl⟩
  · rw [HN.out g5]
    clear g5 HN HA HA'
    go_enter Try.func137, Try.ntmps137
    go_wp2_with fail
    go_quiet (fail)
    go_wp2_with fail
    go_ret
    exact ⟨rfl, _, rfl⟩
  · rw [HN.out g5]
    clear g5 HN HA HA'
    go_enter Try.func137, Try.ntmps137
    go_wp2_with fail
    go_quiet (fail)
    go_wp2_with fail
    go_ret
    exact ⟨rfl, _, rfl⟩
  · rw [HN.out g5]
    have g2 : ((rs.length : Int) != (rs'.length : Int)) = true := by rw [bne_iff_ne]; omega
    clear g5 HN HA HA'
    go_enter Try.func137, Try.ntmps137
    go_wp2_with fail
    go_quiet (fail)
    go_wp2_with fail
    go_ret
    exact ⟨rfl, _, rfl⟩
  · have HY := Lib.hid (show sameAb ⟨u, l, w, rs⟩ ⟨u, l, w, rs'⟩ = decide (rs = rs') by unfold sameAb; rw [g5]; rfl)
    have g2 : ((rs.length : Int) != (rs'.length : Int)) = false := by rw [g1]; simp
    have G1 := Lib.hid g1
    clear g5 HN g1
    go_enter Try.func137, Try.ntmps137
    go_wp2_with fail
    go_quiet (fail)
    go_wp2_with fail
    clear a0 a1 a2 a3 b0 b1 b2 b3 g2
    go_loopw [5] (fun i wr => ∃ k n : Nat, k ≤ rs.length ∧ i = .int .i64 (k : Int) ∧ rs.take k = rs'.take k ∧ wr = W.drewN n) (fun i _ => rs.length - (intOf i).toNat)
    case atStart => exact ⟨0, _, Nat.zero_le _, rfl, rfl, rfl⟩
    case round =>
      obtain ⟨k, n, hk, rfl, htk, hwr⟩ := hrel
      have HT := Lib.hid htk
      have Hw := Lib.hid hwr
      obtain ⟨a0, a1, a2, a3⟩ : AbAt wr q1 u l w (.slice A rs.length c) := by rw [hwr]; exact HA.out.drewN n
      obtain ⟨b0, b1, b2, b3⟩ : AbAt wr q2 u l w (.slice A' rs'.length c') := by rw [hwr]; exact HA'.out.drewN n
      have HD := Lib.hid (fun m => (show wr.drewN m = W.drewN (n + m) by rw [hwr, World.drewN_drewN]))
      have HW1 : Hid (Rd wr B1 (.slice A rs.length c) rs.length 2 (rodsC rs)) := Lib.hid (by rw [hwr]; exact H.out)
      have HW2 : Hid (Rd wr B2 (.slice A' rs'.length c') rs'.length 2 (rodsC rs')) := Lib.hid (by rw [hwr]; exact H'.out)
      clear htk hwr
      by_cases hlt : k < rs.length
      · have hlt' : (k : Int) < (rs.length : Int) := by omega
        have g1 := G1.out
        have hl2 : k < rs'.length := by omega
        have hlt2 : (k : Int) < (rs'.length : Int) := by omega
        obtain ⟨b, off, hA, _, hcc⟩ := rods_at HW1.out (by omega)
        subst hA
        obtain ⟨r0, r1⟩ := hcc k hlt
        obtain ⟨b', off', hA', _, hcc'⟩ := rods_at HW2.out (by omega)
        subst hA'
        obtain ⟨s0, s1⟩ := hcc' k hl2
        have HNE := Lib.hid (fun h => rods_ne hlt hl2 h)
        have HEQ := Lib.hid (fun h => take_eq_succ hlt hl2 HT.out h)
        generalize rs[k] = x at *
        generalize rs'[k] = y at *
        obtain ⟨x0, x1⟩ := x
        obtain ⟨y0, y1⟩ := y
        dsimp only at r0 r1 s0 s1
        clear hcc hcc' g1
        by_cases h0 : x0 = y0
        · subst h0
          by_cases h1 : x1 = y1
          · subst h1
            have HE2 := Lib.hid (HEQ.out rfl)
            clear HNE HEQ
            go_wp2_with fail
            go_quiet (fail)
            go_wp2_with fail
            go_roundw
            case rel => exact ⟨k + 1, _, by omega, by go_num, HE2.out, HD.out _⟩
            case measure => first | (simp [intOf]; done) | (simp [intOf]; omega)
          · have HF := Lib.hid (HNE.out (fun e => h1 (by injection e)))
            have h1' : (x1 != y1) = true := by simpa using h1
            have h1'' : (x1 == y1) = false := by simpa using h1
            clear HNE HEQ h1
            go_wp2_with fail
            go_quiet (fail)
            go_wp2_with fail
            go_ret
            exact ⟨ret_boolA (HY.out.trans HF.out).symm, _, HD.out _⟩
        · have HF := Lib.hid (HNE.out (fun e => h0 (by injection e)))
          have h1' : (x0 != y0) = true := by simpa using h0
          have h1'' : (x0 == y0) = false := by simpa using h0
          clear HNE HEQ h0
          go_wp2_with fail
          go_quiet (fail)
          go_wp2_with fail
          go_ret
          exact ⟨ret_boolA (HY.out.trans HF.out).symm, _, HD.out _⟩
      · have hkn : k = rs.length := by omega
        have hlt' : ¬ (k : Int) < (rs.length : Int) := by omega
        have HF := Lib.hid (show decide (rs = rs') = true by
          apply decide_eq_true
          have h := HT.out
          have g1 := G1.out
          rw [hkn, List.take_length, g1, List.take_length] at h
          exact h)
        clear hkn
        go_wp2_with fail
        go_ret
        exact ⟨ret_boolA (HY.out.trans HF.out).symm, n, Hw.out⟩
theorem SameAbS_any (B : Nat) (u l w u' l' w' : Int) (v v' : Value) (rs rs' : List (Int × Int)) (W : World) (hr : Rd W B v rs.length 2 (rodsC rs)) (hr' : Rd W B v' rs'.length 2 (rodsC rs')) (hB : B ≤ W.heap.size) (hm : rs.length ≤ 1048576) (hm' : rs'.length ≤ 1048576) :
    Calls Try.prog 45 #[aggAb u l w v, aggAb u' l' w' v'] W fun e w'' => e = .returned (.bool (sameAb ⟨u, l, w, rs⟩ ⟨u', l', w', rs'⟩)) ∧ Below W.heap.size W w'' := by
  obtain ⟨h1, h2, h3⟩ := two_blocks W #[.int .i64 u, .int .i64 l, .int .i64 w, v] #[.int .i64 u', .int .i64 l', .int .i64 w', v'] 52 52
  have HC := Lib.hid (l03Same_any B B W.heap.size (W.heap.size + 1) u l w u' l' w' v v' rs rs' _ (AbAt.of h1) (hr.below (h3.mono hB)) (AbAt.of h2) (hr'.below (h3.mono hB)) hm hm')
  have HB := Lib.hid h3
  obtain ⟨_, A, c, rfl, _⟩ := hr
  obtain ⟨_, A', c', rfl, _⟩ := hr'
  generalize sameAb ⟨u, l, w, rs⟩ ⟨u', l', w', rs'⟩ = R at *
  clear h1 h2 h3
  go_enter Try.func45, Try.ntmps45
  go_wp2_with fail
  refine HC.out.mono ?_; rintro e w1 ⟨rfl, n1, rfl⟩
  go_wp2_with fail
  go_ret
  exact ⟨rfl, below_drewN HB.out _⟩
set_option maxRecDepth 100000 in
set_option maxHeartbeats 1600000 in
theorem sameBeads_any (u l w u' l' w' : Int) (A A' : Option Addr) (c c' : Nat) (rs rs' : List (Int × Int)) (W : World) (hm : rs.length ≤ 1048576) (hm' : rs'.length ≤ 1048576) :
    Calls Try.prog 138 #[aggAb u l w (.slice A rs.length c), aggAb u' l' w' (.slice A' rs'.length c')] W fun e w'' => e = .returned (.bool (sameB ⟨u, l, w, rs⟩ ⟨u', l', w', rs'⟩)) ∧ Below W.heap.size W w'' := by
  obtain ⟨h1, h2, h3⟩ := two_blocks W #[.int .i64 u, .int .i64 l, .int .i64 w, .slice A rs.length c] #[.int .i64 u', .int .i64 l', .int .i64 w', .slice A' rs'.length c'] 52 52
  have HB := Lib.hid h3
  obtain ⟨a0, a1, a2, a3⟩ := four_at h1
  obtain ⟨b0, b1, b2, b3⟩ := four_at h2
  clear h1 h2 h3
  rcases sameB_cases u l w u' l' w' rs rs' with ⟨g1, g5⟩ | ⟨rfl, g1, g5⟩ | ⟨rfl, rfl, g1, g5⟩ | ⟨rfl, rfl, rfl, g1, g5⟩ | ⟨rfl, rfl, rfl, g1, g5⟩
  · rw [g5]
    have g2 : (u == u') = false := by simpa using g1
    clear g5
    go_enter Try.func138, Try.ntmps138
    go_wp2_with fail
    go_ret
    exact ⟨rfl, HB.out⟩
  · rw [g5]
    have g2 : (l == l') = false := by simpa using g1
    clear g5
    go_enter Try.func138, Try.ntmps138
    go_wp2_with fail
    go_ret
    exact ⟨rfl, HB.out⟩
  · rw [g5]
    have g2 : (w == w') = false := by simpa using g1
    clear g5
    go_enter Try.func138, Try.ntmps138
    go_wp2_with fail
    go_ret
    exact ⟨rfl, HB.out⟩
  · rw [g5]
    have g2 : ((rs.length : Int) == (rs'.length : Int)) = false := by rw [beq_eq_false_iff_ne]; omega
    clear g5
    go_enter Try.func138, Try.ntmps138
    go_wp2_with fail
    go_ret
    exact ⟨rfl, HB.out⟩
  · rw [g5]
    have g2 : ((rs.length : Int) == (rs'.length : Int)) = true := by rw [g1]; simp
    clear g5 g1
    go_enter Try.func138, Try.ntmps138
    go_wp2_with fail
    go_ret
    exact ⟨rfl, HB.out⟩
end Go.Proofs.Ythemffbkkhaaoaa
/- Abaci: SameAbacus, impl; IsPlain, both sides. -/
namespace Go.Proofs.Ythemffbkkhaaoaa
open Go.RowKit Go.Joins

theorem two_size (W : World) (x y : Obj) : ((W.alloc x).alloc y).heap.size = W.heap.size + 1 + 1 := by simp

set_option maxRecDepth 100000 in
set_option maxHeartbeats 1600000 in
theorem SameAbI_any (B : Nat) (u l w u' l' w' : Int) (v v' : Value) (rs rs' : List (Int × Int)) (W : World) (hr : Rd W B v rs.length 2 (rodsC rs)) (hr' : Rd W B v' rs'.length 2 (rodsC rs')) (hB : B ≤ W.heap.size) (hm : rs.length ≤ 1048576) (hm' : rs'.length ≤ 1048576) :
    Calls Try.prog 46 #[aggAb u l w v, aggAb u' l' w' v'] W fun e w'' => e = .returned (.bool (sameAb ⟨u, l, w, rs⟩ ⟨u', l', w', rs'⟩)) ∧ Below W.heap.size W w'' := by
  have H := Lib.hid hr
  have H' := Lib.hid hr'
  obtain ⟨_, A, c, rfl, _⟩ := hr
  obtain ⟨_, A', c', rfl, _⟩ := hr'
  obtain ⟨h1, h2, h3⟩ := two_blocks W #[.int .i64 u, .int .i64 l, .int .i64 w, .slice A rs.length c] #[.int .i64 u', .int .i64 l', .int .i64 w', .slice A' rs'.length c'] 52 52
  have HB := Lib.hid h3
  have Q1 := Lib.hid h1
  have Q2 := Lib.hid h2
  have HS := Lib.hid (fun wx => sameBeads_any u l w u' l' w' A A' c c' rs rs' wx hm hm')
  obtain ⟨a0, a1, a2, a3⟩ := four_at h1
  obtain ⟨b0, b1, b2, b3⟩ := four_at h2
  clear h1 h2 h3
  cases hs : sameB ⟨u, l, w, rs⟩ ⟨u', l', w', rs'⟩
  · rw [hs] at HS
    rw [sameAb_no hs]
    go_enter Try.func46, Try.ntmps46
    go_wp2_with fail
    refine (HS.out _).mono ?_; rintro e w1 ⟨rfl, hb1⟩
    have HB1 := Lib.hid (HB.out.trans (hb1.mono HB.out.size))
    clear hb1
    go_wp2_with fail
    go_ret
    exact ⟨rfl, HB1.out⟩
  rw [hs] at HS
  have HY := Lib.hid (show sameAb ⟨u, l, w, rs⟩ ⟨u', l', w', rs'⟩ = decide (rs = rs') by unfold sameAb; rw [hs]; rfl)
  have G1 := Lib.hid (show rs.length = rs'.length by
    unfold sameB at hs
    simp only [Bool.and_eq_true, beq_iff_eq] at hs
    exact hs.2)
  have hz := two_size W (.cells #[.int .i64 u, .int .i64 l, .int .i64 w, .slice A rs.length c] 52) (.cells #[.int .i64 u', .int .i64 l', .int .i64 w', .slice A' rs'.length c'] 52)
  clear hs
  go_enter Try.func46, Try.ntmps46
  go_wp2_with fail
  refine (HS.out _).mono ?_; rintro e w1 ⟨rfl, hb1⟩
  have HB1 := Lib.hid (HB.out.trans (hb1.mono HB.out.size))
  have A1 := Lib.hid (AbAt.of ((hb1.block _ (by omega)).trans Q1.out))
  have A2 := Lib.hid (AbAt.of ((hb1.block _ (by omega)).trans Q2.out))
  clear hb1 a0 a1 a2 a3 b0 b1 b2 b3 hz
  have HW1 := Lib.hid (H.out.below (HB1.out.mono hB))
  have HW2 := Lib.hid (H'.out.below (HB1.out.mono hB))
  obtain ⟨a0, a1, a2, a3⟩ := A1.out
  go_wp2_with fail
  clear a0 a1 a2 a3
  go_loopw [13] (fun i wr => ∃ k n : Nat, k ≤ rs.length ∧ i = .int .i64 (k : Int) ∧ rs.take k = rs'.take k ∧ wr = w1.drewN n) (fun i _ => rs.length - (intOf i).toNat)
  case atStart => exact ⟨0, 0, Nat.zero_le _, rfl, rfl, rfl⟩
  case round =>
    obtain ⟨k, n, hk, rfl, htk, hwr⟩ := hrel
    have HT := Lib.hid htk
    have Hw := Lib.hid hwr
    obtain ⟨a0, a1, a2, a3⟩ : AbAt wr W.heap.size u l w (.slice A rs.length c) := by rw [hwr]; exact A1.out.drewN n
    obtain ⟨b0, b1, b2, b3⟩ : AbAt wr (W.heap.size + 1) u' l' w' (.slice A' rs'.length c') := by rw [hwr]; exact A2.out.drewN n
    have HD := Lib.hid (fun m => (show wr.drewN m = w1.drewN (n + m) by rw [hwr, World.drewN_drewN]))
    have HX1 : Hid (Rd wr B (.slice A rs.length c) rs.length 2 (rodsC rs)) := Lib.hid (by rw [hwr]; exact HW1.out)
    have HX2 : Hid (Rd wr B (.slice A' rs'.length c') rs'.length 2 (rodsC rs')) := Lib.hid (by rw [hwr]; exact HW2.out)
    clear htk hwr
    by_cases hlt : k < rs.length
    · have hlt' : (k : Int) < (rs.length : Int) := by omega
      have g1 := G1.out
      have hl2 : k < rs'.length := by omega
      have hlt2 : (k : Int) < (rs'.length : Int) := by omega
      obtain ⟨b, off, hA, _, hcc⟩ := rods_at HX1.out (by omega)
      subst hA
      obtain ⟨r0, r1⟩ := hcc k hlt
      obtain ⟨b', off', hA', _, hcc'⟩ := rods_at HX2.out (by omega)
      subst hA'
      obtain ⟨s0, s1⟩ := hcc' k hl2
      have HNE := Lib.hid (fun h => rods_ne hlt hl2 h)
      have HEQ := Lib.hid (fun h => take_eq_succ hlt hl2 HT.out h)
      generalize rs[k] = x at *
      generalize rs'[k] = y at *
      obtain ⟨x0, x1⟩ := x
      obtain ⟨y0, y1⟩ := y
      dsimp only at r0 r1 s0 s1
      clear hcc hcc' g1
      by_cases h0 : x0 = y0
      · subst h0
        by_cases h1 : x1 = y1
        · subst h1
          have HE2 := Lib.hid (HEQ.out rfl)
          clear HNE HEQ
          go_wp2_with fail
          go_quiet (fail)
          go_wp2_with fail
          go_roundw
          case rel => exact ⟨k + 1, _, by omega, by go_num, HE2.out, HD.out _⟩
          case measure => first | (simp [intOf]; done) | (simp [intOf]; omega)
        · have HF := Lib.hid (HNE.out (fun e => h1 (by injection e)))
          have h1' : (x1 != y1) = true := by simpa using h1
          have h1'' : (x1 == y1) = false := by simpa using h1
          clear HNE HEQ h1
          go_wp2_with fail
          go_quiet (fail)
          go_wp2_with fail
          go_ret
          exact ⟨ret_boolA (HY.out.trans HF.out).symm, by rw [HD.out]; exact below_drewN HB1.out _⟩
      · have HF := Lib.hid (HNE.out (fun e => h0 (by injection e)))
        have h1' : (x0 != y0) = true := by simpa using h0
        have h1'' : (x0 == y0) = false := by simpa using h0
        clear HNE HEQ h0
        go_wp2_with fail
        go_quiet (fail)
        go_wp2_with fail
        go_ret
        exact ⟨ret_boolA (HY.out.trans HF.out).symm, by rw [HD.out]; exact below_drewN HB1.out _⟩
    · have hkn : k = rs.length := by omega
      have hlt' : ¬ (k : Int) < (rs.length : Int) := by omega
      have HF := Lib.hid (show decide (rs = rs') = true by
        apply decide_eq_true
        have h := HT.out
        have g1 := G1.out
        rw [hkn, List.take_length, g1, List.take_length] at h
        exact h)
      clear hkn
      go_wp2_with fail
      go_ret
      exact ⟨ret_boolA (HY.out.trans HF.out).symm, by rw [Hw.out]; exact below_drewN HB1.out _⟩
theorem sameAb_set {a : Ab} (h : okAb a = true) : isPl a = (decide (leftV a.rods.length (valR a.w a.rods) = 0) && sameAb ⟨a.u, a.l, a.w, plainRs a.u a.w a.rods.length (valR a.w a.rods)⟩ a) := by
  rw [isPl_iff h]
  congr 1
  unfold sameAb sameB
  simp [plainRs_len]
set_option maxRecDepth 100000 in
set_option maxHeartbeats 1600000 in
theorem IsPlainS_any (B : Nat) (u l w : Int) (v : Value) (rs : List (Int × Int)) (W : World) (h : Rd W B v rs.length 2 (rodsC rs)) (hB : B ≤ W.heap.size) (hm : rs.length ≤ 1048576) : Calls Try.prog 50 #[aggAb u l w v] W fun e w' => e = .returned (.bool (isPl ⟨u, l, w, rs⟩)) ∧ Below W.heap.size W w' := by
  have H := Lib.hid h
  obtain ⟨_, A, c, rfl, _⟩ := h
  have hb1 := (Below.refl W.heap.size W).alloc (Nat.le_refl _) (.cells #[.int .i64 u, .int .i64 l, .int .i64 w, .slice A rs.length c] 52)
  have HA := Lib.hid (AbAt.of (heap_alloc_new W (.cells #[.int .i64 u, .int .i64 l, .int .i64 w, .slice A rs.length c] 52)))
  have HV := Lib.hid (l03Ok_any W.heap.size B u l w (.slice A rs.length c) rs _ HA.out (H.out.below (hb1.mono hB)) hm)
  have HB := Lib.hid hb1
  have HS := Lib.hid (fun val hok h0 h1 wx ha hx hz => l03Set_any B W.heap.size u l w val (.slice A rs.length c) rs wx ha hx hz hok h0 h1)
  have HVL := Lib.hid (fun hok wx ha hx => l03Value_any B W.heap.size u l w (.slice A rs.length c) rs wx ha hx hok)
  have hlt1 : W.heap.size < (W.alloc (.cells #[.int .i64 u, .int .i64 l, .int .i64 w, .slice A rs.length c] 52)).heap.size := by simp
  clear hb1
  cases hok : okAb ⟨u, l, w, rs⟩
  · rw [hok] at HV
    have e1 : isPl ⟨u, l, w, rs⟩ = false := by unfold isPl; rw [hok]; rfl
    rw [e1]
    clear hok HS HVL
    go_enter Try.func50, Try.ntmps50
    go_wp2_with fail
    refine HV.out.mono ?_; rintro e w2 ⟨rfl, n2, rfl⟩
    go_wp2_with fail
    go_ret
    exact ⟨rfl, below_drewN HB.out _⟩
  rw [hok] at HV
  have HR := Lib.hid (sameAb_set hok)
  have hvb := val_bd10 hok 0
  rw [List.drop_zero] at hvb
  obtain ⟨i0, i1⟩ := hvb
  have HS2 := Lib.hid (HS.out (valR w rs) hok i0 (by dsimp only at i1; omega))
  have HVL2 := Lib.hid (HVL.out hok)
  dsimp only at HR
  have hpl := plainRs_len u w rs.length (valR w rs)
  unfold RetSet at HS2
  generalize plainRs u w rs.length (valR w rs) = ps at *
  generalize decide (leftV rs.length (valR w rs) = 0) = z at *
  generalize valR w rs = val at *
  clear hok HS HVL i0 i1
  go_enter Try.func50, Try.ntmps50
  go_wp2_with fail
  refine HV.out.mono ?_; rintro e w2 ⟨rfl, n2, hw2⟩
  have HB2 := Lib.hid (below_eqA hw2)
  have HA2 := Lib.hid (HA.out.below hlt1 HB2.out)
  have HBW2 := Lib.hid (HB.out.trans (HB2.out.mono HB.out.size))
  have HC1 := Lib.hid (HVL2.out w2 HA2.out (H.out.below (HBW2.out.mono hB)))
  have hs2 := HB2.out.size
  clear hw2 HB2
  go_wp2_with fail
  refine HC1.out.mono ?_; rintro e wv ⟨rfl, n3, hw3⟩
  have HB3 := Lib.hid (below_eqA hw3)
  have HA3 := Lib.hid (HA2.out.below (by omega) HB3.out)
  have HBW3 := Lib.hid (HBW2.out.trans (HB3.out.mono HBW2.out.size))
  have HC := Lib.hid (HS2.out wv HA3.out (H.out.below (HBW3.out.mono hB)) (Nat.le_trans hB HBW3.out.size))
  have hs3 := HB3.out.size
  clear hw3 HC1 HB3
  go_wp2_with fail
  refine HC.out.mono ?_; rintro e w3 ⟨v3, rfl, ho3, hb3⟩
  have hbm := (Below.refl w3.heap.size w3).alloc (Nat.le_refl _) (.cells #[.int .i64 u, .int .i64 l, .int .i64 w, v3] 52)
  have HN := Lib.hid (AbAt.of (heap_alloc_new w3 (.cells #[.int .i64 u, .int .i64 l, .int .i64 w, v3] 52)))
  have HO3 := Lib.hid ((Rd.of_own ho3).below hbm)
  obtain ⟨A3, c3', rfl⟩ := own_sl ho3
  have hs4 := hb3.size
  have HA4 := Lib.hid ((HA3.out.below (by omega) hb3).below (by omega) hbm)
  have HBW4 := Lib.hid ((HBW3.out.trans (hb3.mono HBW3.out.size)).trans (hbm.mono (Nat.le_trans HBW3.out.size hb3.size)))
  go_upto_region 4 with (fail)
  generalize w3.alloc (.cells #[.int .i64 u, .int .i64 l, .int .i64 w, .slice A3 rs.length c3'] 52) = w4 at *
  generalize w3.heap.size = q at *
  clear hbm ho3 hb3 HA3 HBW3 HA2 HBW2
  have HSM := Lib.hid (l03Same_any q B q W.heap.size u l w u l w (.slice A3 rs.length c3') (.slice A rs.length c) ps rs w4 HN.out (by rw [hpl]; exact HO3.out) HA4.out (H.out.below (HBW4.out.mono hB)) (by omega) hm)
  cases z with
  | false =>
    go_wp2_with fail
    go_ret
    exact ⟨by rw [HR.out]; rfl, HBW4.out⟩
  | true =>
    generalize sameAb ⟨u, l, w, ps⟩ ⟨u, l, w, rs⟩ = sm at *
    go_wp2_with fail
    refine HSM.out.mono ?_; rintro e w5 ⟨rfl, n5, hw5⟩
    have HB5 := Lib.hid (HBW4.out.trans ((below_eqA hw5).mono HBW4.out.size))
    clear hw5
    go_wp2_with fail
    go_ret
    exact ⟨ret_boolA (HR.out.trans (Bool.true_and _)).symm, HB5.out⟩
theorem plRod_no {a : Ab} {k : Nat} (hk : k < a.rods.length) (h : plRod a a.rods[k] = false) : isPl a = false := by
  unfold isPl
  rw [all_no hk h, Bool.and_false]
theorem plRod_cases (u w : Int) (l : Int) (rs : List (Int × Int)) (x : Int × Int) : (9 < shownR w x ∧ plRod ⟨u, l, w, rs⟩ x = false) ∨ (shownR w x ≤ 9 ∧ x ≠ plainRodA u w (shownR w x) ∧ plRod ⟨u, l, w, rs⟩ x = false) ∨ (shownR w x ≤ 9 ∧ x = plainRodA u w (shownR w x) ∧ plRod ⟨u, l, w, rs⟩ x = true) := by
  unfold plRod
  dsimp only
  by_cases h1 : shownR w x ≤ 9
  · by_cases h2 : x = plainRodA u w (shownR w x)
    · exact .inr (.inr ⟨h1, h2, by rw [decide_eq_true h1, beq_iff_eq.2 h2]; rfl⟩)
    · exact .inr (.inl ⟨h1, h2, by rw [decide_eq_true h1, beq_eq_false_iff_ne.2 h2]; rfl⟩)
  · exact .inl ⟨by omega, by rw [decide_eq_false h1]; rfl⟩
end Go.Proofs.Ythemffbkkhaaoaa
/- Abaci: IsPlain, impl. -/
namespace Go.Proofs.Ythemffbkkhaaoaa
open Go.RowKit Go.Joins

set_option maxRecDepth 100000 in
set_option maxHeartbeats 3200000 in
theorem IsPlainI_any (B : Nat) (u l w : Int) (v : Value) (rs : List (Int × Int)) (W : World) (h : Rd W B v rs.length 2 (rodsC rs)) (hB : B ≤ W.heap.size) (hm : rs.length ≤ 1048576) : Calls Try.prog 49 #[aggAb u l w v] W fun e w' => e = .returned (.bool (isPl ⟨u, l, w, rs⟩)) ∧ Below W.heap.size W w' := by
  have H := Lib.hid h
  obtain ⟨_, A, c, rfl, _⟩ := h
  have hb1 := (Below.refl W.heap.size W).alloc (Nat.le_refl _) (.cells #[.int .i64 u, .int .i64 l, .int .i64 w, .slice A rs.length c] 52)
  have HA := Lib.hid (AbAt.of (heap_alloc_new W (.cells #[.int .i64 u, .int .i64 l, .int .i64 w, .slice A rs.length c] 52)))
  have HV := Lib.hid (ValidAbI_any B u l w (.slice A rs.length c) rs _ (H.out.below (hb1.mono hB)) (Nat.le_trans hB hb1.size) hm)
  have HB := Lib.hid hb1
  have HSH := Lib.hid (fun hok k wx hx hz (hk : k < rs.length) => shownI_any B k u l w (.slice A rs.length c) rs wx hx hz hok hk)
  have HPR := Lib.hid (fun hk1 d wx (d0 : 0 ≤ d) (d9 : d ≤ 9) => plainRodI_any u l w d (.slice A rs.length c) rs wx hk1 d0 d9)
  have hlt1 : W.heap.size < (W.alloc (.cells #[.int .i64 u, .int .i64 l, .int .i64 w, .slice A rs.length c] 52)).heap.size := by simp
  obtain ⟨c0, c1, c2, c3⟩ := HA.out
  clear hb1
  cases hok : okAb ⟨u, l, w, rs⟩
  · rw [hok] at HV
    have e1 : isPl ⟨u, l, w, rs⟩ = false := by unfold isPl; rw [hok]; rfl
    rw [e1]
    clear hok HSH HPR
    go_enter Try.func49, Try.ntmps49
    go_wp2_with fail
    refine HV.out.mono ?_; rintro e w2 ⟨rfl, hb2⟩
    have HB2 := Lib.hid (HB.out.trans (hb2.mono HB.out.size))
    clear hb2
    go_wp2_with fail
    go_ret
    exact ⟨rfl, HB2.out⟩
  rw [hok] at HV
  obtain ⟨hk1, _, hk3, hk4⟩ := okAb_and hok
  have HS := Lib.hid (fun k (hk : k < rs.length) => shown_bd hk1 (ok_get hok hk))
  have HSH2 := Lib.hid (HSH.out hok)
  have HPR2 := Lib.hid (HPR.out hk1)
  have HNO := Lib.hid (fun k (hk : k < rs.length) h => all_no (p := plRod ⟨u, l, w, rs⟩) hk h)
  have HIS := Lib.hid (show isPl ⟨u, l, w, rs⟩ = rs.all (plRod ⟨u, l, w, rs⟩) by unfold isPl; rw [hok, Bool.true_and])
  dsimp only at hk3 hk4 HS HNO
  clear hok hk1 HSH HPR
  go_enter Try.func49, Try.ntmps49
  go_wp2_with fail
  refine HV.out.mono ?_; rintro e w2 ⟨rfl, hb2⟩
  have HB2 := Lib.hid (HB.out.trans (hb2.mono HB.out.size))
  have HA2 := Lib.hid (HA.out.below hlt1 hb2)
  have hs2 := hb2.size
  clear hb2 c0 c1 c2 c3
  obtain ⟨c0, c1, c2, c3⟩ := HA2.out
  have hlt2 : W.heap.size < w2.heap.size := by omega
  clear hs2 hlt1 HB HA
  go_wp2_with fail
  clear c0 c1 c2 c3
  go_loopw [11] (fun i wr => ∃ k : Nat, k ≤ rs.length ∧ i = .int .i64 (k : Int) ∧ (rs.take k).all (plRod ⟨u, l, w, rs⟩) = true ∧ Below w2.heap.size w2 wr) (fun i _ => rs.length - (intOf i).toNat)
  case atStart => exact ⟨0, Nat.zero_le _, rfl, rfl, Below.refl _ _⟩
  case round =>
    obtain ⟨k, hk, rfl, hal, hbl⟩ := hrel
    have Hal := Lib.hid hal
    have Hbl := Lib.hid (HB2.out.trans (hbl.mono HB2.out.size))
    have HAr := Lib.hid (HA2.out.below hlt2 hbl)
    have HBr := Lib.hid hbl
    have hlr := hbl.size
    clear hal hbl
    by_cases hlt : k < rs.length
    · have hlt' : (k : Int) < (rs.length : Int) := by omega
      obtain ⟨c0, c1, c2, c3⟩ := HAr.out
      obtain ⟨_, _, s3, s4⟩ := HS.out k hlt
      have HC := Lib.hid (HSH2.out k wr (H.out.below (Hbl.out.mono hB)) (Nat.le_trans hB Hbl.out.size) hlt)
      have HNk := Lib.hid (HNO.out k hlt)
      have HYk := Lib.hid (fun h => all_take (p := plRod ⟨u, l, w, rs⟩) hlt Hal.out h)
      obtain ⟨b, off, hA, hbB, hcc⟩ := rods_at (H.out.below (Hbl.out.mono hB)) (by omega)
      subst hA
      obtain ⟨r0, r1⟩ := hcc k hlt
      have hcs := plRod_cases u w l rs rs[k]
      have HCP := Lib.hid (fun wx => HPR2.out (shownR w rs[k]) wx s3)
      generalize plainRodA u w (shownR w rs[k]) = y at *
      generalize shownR w rs[k] = d at *
      generalize rs[k] = x at *
      obtain ⟨x0, x1⟩ := x
      obtain ⟨y0, y1⟩ := y
      dsimp only at r0 r1
      clear hcc
      rcases hcs with ⟨g1, g2⟩ | ⟨g1, g2, g3⟩ | ⟨g1, g2, g3⟩
      · have HF := Lib.hid (HIS.out.trans (HNk.out g2))
        clear g2 HNk HYk HCP
        go_wp2_with fail
        refine HC.out.mono ?_; rintro e w3 ⟨rfl, hb3⟩
        have HB3 := Lib.hid (Hbl.out.trans (hb3.mono Hbl.out.size))
        clear hb3 c0 c1 c2 c3 r0 r1
        go_wp2_with fail
        go_quiet (fail)
        go_wp2_with fail
        go_ret
        exact ⟨ret_boolA HF.out.symm, by first | exact below_drewN HB3.out _ | exact HB3.out⟩
      · have HF := Lib.hid (HIS.out.trans (HNk.out g3))
        have g4 : x0 = y0 → (x1 != y1) = true := fun e => by
          rw [bne_iff_ne]; intro e2; exact g2 (by rw [e, e2])
        clear g3 HNk HYk g2
        by_cases h0 : x0 = y0
        · subst h0
          have h1' := g4 rfl
          have h1'' : (x1 == y1) = false := by simpa using h1'
          clear g4
          go_wp2_with fail
          refine HC.out.mono ?_; rintro e w3 ⟨rfl, hb3⟩
          have HB3 := Lib.hid (Hbl.out.trans (hb3.mono Hbl.out.size))
          have HR3 := Lib.hid (HBr.out.trans (hb3.mono HBr.out.size))
          have HA3 := Lib.hid (HAr.out.below (by omega) hb3)
          have HCQ := Lib.hid (HCP.out w3.drew g1)
          have q0 := (hb3.cell (p := ⟨b, off + k * 2, none⟩) (by have := Hbl.out.size; show b < _; omega)).trans r0
          have q1 := (hb3.cell (p := ⟨b, off + k * 2 + 1, none⟩) (by have := Hbl.out.size; show b < _; omega)).trans r1
          have hw3 := hb3.size
          clear hb3 c0 c1 c2 c3 r0 r1
          obtain ⟨c0, c1, c2, c3⟩ := HA3.out
          go_wp2_with fail
          refine wp_region_noPanic ?_
          refine wp_region_L [] (fun w' => w'.cell? ⟨W.heap.size, 0, none⟩ = some (.int .i64 u) ∧ w'.cell? ⟨W.heap.size, 1, none⟩ = some (.int .i64 l) ∧ w'.cell? ⟨W.heap.size, 2, none⟩ = some (.int .i64 w) ∧ w'.cell? ⟨W.heap.size, 3, none⟩ = some (.slice (some ⟨b, off, none⟩) rs.length c) ∧ w'.cell? ⟨b, off + k * 2, none⟩ = some (.int .i64 x0) ∧ w'.cell? ⟨b, off + k * 2 + 1, none⟩ = some (.int .i64 x1)) (by kernel_rfl) (⟨c0, c1, c2, c3, q0, q1⟩) (fun hHeld => ?_)
          refine take_F (i := 0) (d := some 17) (v := ?_) (by kernel_rfl) (by kernel_rfl) rfl rfl (by kernel_rfl) (by kernel_rfl) (by kernel_rfl) (fun _ _ _ h => h) (Or.inl ⟨by rfl, ?_⟩) (by assumption) ?_
          rotate_left
          · (intro w hSw; (try dsimp only at hSw); go_simp; (try rw [if_neg (by omega)]); (try (with_reducible rfl)))
          simp only [Act.put, List.setIfInBounds_toArray, List.set_cons_zero, List.set_cons_succ]
          refine take_F (i := 1) (d := some 18) (v := .bool false) (by kernel_rfl) (by kernel_rfl) rfl rfl (by kernel_rfl) (by kernel_rfl) (by kernel_rfl) (fun _ _ _ h => h) (Or.inl ⟨by rfl, ?_⟩) (by assumption) ?_
          · (intro w hSw; (try dsimp only at hSw); go_simp <;> first | omega | (simp; done) | (simp; omega))
          simp only [Act.put, List.setIfInBounds_toArray, List.set_cons_zero, List.set_cons_succ]
          refine take_F (i := 2) (d := some 19) (v := ?_) (by kernel_rfl) (by kernel_rfl) rfl rfl (by kernel_rfl) (by kernel_rfl) (by kernel_rfl) (fun _ _ _ h => h) (Or.inl ⟨by rfl, ?_⟩) (by assumption) ?_
          rotate_left
          · (intro w hSw; (try dsimp only at hSw); go_simp; (try rw [if_neg (by omega)]); (try (with_reducible rfl)))
          simp only [Act.put, List.setIfInBounds_toArray, List.set_cons_zero, List.set_cons_succ]
          refine take_F (i := 3) (d := some 20) (v := ?_) (by kernel_rfl) (by kernel_rfl) rfl rfl (by kernel_rfl) (by kernel_rfl) (by kernel_rfl) (fun _ _ _ h => h) (Or.inl ⟨by rfl, ?_⟩) (by assumption) ?_
          rotate_left
          · (intro w hSw; (try dsimp only at hSw); go_simp; (try rw [if_neg (by omega)]); (try (with_reducible rfl)))
          simp only [Act.put, List.setIfInBounds_toArray, List.set_cons_zero, List.set_cons_succ]
          refine take_L [11,7,6,4] (i := 4) (d := some 21) (v := ?_) (by kernel_rfl) (by kernel_rfl) (by kernel_rfl) (by kernel_rfl) rfl rfl (by kernel_rfl) (by kernel_rfl) (by kernel_rfl) (fun _ _ _ h => h) (Or.inl ⟨by rfl, ?_⟩) (by assumption) ?_
          rotate_left
          · (intro w hSw; (try dsimp only at hSw); go_simp; (try rw [if_neg (by omega)]); (try (with_reducible rfl)))
          simp only [Act.put, List.setIfInBounds_toArray, List.set_cons_zero, List.set_cons_succ]
          refine take_F (i := 5) (d := some 22) (v := ?_) (by kernel_rfl) (by kernel_rfl) rfl rfl (by kernel_rfl) (by kernel_rfl) (by kernel_rfl) (fun _ _ _ h => h) (Or.inl ⟨by rfl, ?_⟩) (by assumption) ?_
          rotate_left
          · (intro w hSw; (try dsimp only at hSw); go_simp; (try rw [if_neg (by omega)]); (try (with_reducible rfl)))
          simp only [Act.put, List.setIfInBounds_toArray, List.set_cons_zero, List.set_cons_succ]
          refine take_F (i := 6) (d := some 23) (v := ?_) (by kernel_rfl) (by kernel_rfl) rfl rfl (by kernel_rfl) (by kernel_rfl) (by kernel_rfl) (fun _ _ _ h => h) (Or.inl ⟨by rfl, ?_⟩) (by assumption) ?_
          rotate_left
          · (intro w hSw; (try dsimp only at hSw); go_simp; (try rw [if_neg (by omega)]); (try (with_reducible rfl)))
          simp only [Act.put, List.setIfInBounds_toArray, List.set_cons_zero, List.set_cons_succ]
          refine take_L [11,7] (i := 7) (d := some 24) (v := ?_) (by kernel_rfl) (by kernel_rfl) (by kernel_rfl) (by kernel_rfl) rfl rfl (by kernel_rfl) (by kernel_rfl) (by kernel_rfl) (fun _ _ _ h => h) (Or.inl ⟨by rfl, ?_⟩) (by assumption) ?_
          rotate_left
          · (intro w hSw; (try dsimp only at hSw); go_simp; (try rw [if_neg (by omega)]); (try (with_reducible rfl)))
          simp only [Act.put, List.setIfInBounds_toArray, List.set_cons_zero, List.set_cons_succ]
          refine take_L [11,10,8] (i := 8) (d := some 25) (v := ?_) (by kernel_rfl) (by kernel_rfl) (by kernel_rfl) (by kernel_rfl) rfl rfl (by kernel_rfl) (by kernel_rfl) (by kernel_rfl) (fun _ _ _ h => h) (Or.inl ⟨by rfl, ?_⟩) (by assumption) ?_
          rotate_left
          · (intro w hSw; (try dsimp only at hSw); go_simp; (try rw [if_neg (by omega)]); (try (with_reducible rfl)))
          simp only [Act.put, List.setIfInBounds_toArray, List.set_cons_zero, List.set_cons_succ]
          refine take_F (i := 9) (d := some 26) (v := ?_) (by kernel_rfl) (by kernel_rfl) rfl rfl (by kernel_rfl) (by kernel_rfl) (by kernel_rfl) (fun _ _ _ h => h) (Or.inl ⟨by rfl, ?_⟩) (by assumption) ?_
          rotate_left
          · (intro w hSw; (try dsimp only at hSw); go_simp; (try rw [if_neg (by omega)]); (try (with_reducible rfl)))
          simp only [Act.put, List.setIfInBounds_toArray, List.set_cons_zero, List.set_cons_succ]
          refine call_L (i := 10) (d := (some 27)) rfl rfl (by kernel_rfl) (fun Kq hKq => ?_)
          go_simp
          go_at_call 140
          refine HCQ.out.mono ?_; rintro e w4 ⟨rfl, hb4⟩
          have HB4 := Lib.hid (HB3.out.trans (below_undrew (hb4.mono HB3.out.size)))
          have HR4 := Lib.hid (HR3.out.trans (below_undrew (hb4.mono HR3.out.size)))
          have k4 := HA3.out.below (show W.heap.size < w3.heap.size by omega) (below_undrew hb4)
          have q4 := ((below_undrew hb4).cell (p := ⟨b, off + k * 2, none⟩) (show b < w3.heap.size by have := HB3.out.size; omega)).trans q0
          have q5 := ((below_undrew hb4).cell (p := ⟨b, off + k * 2 + 1, none⟩) (show b < w3.heap.size by have := HB3.out.size; omega)).trans q1
          clear hb4
          (try go_wp2_with fail)
          refine hKq.out _ _ (⟨k4.c0, k4.c1, k4.c2, k4.c3, q4, q5⟩) (fun hHeld => ?_)
          clear hKq Kq
          (try simp only [Act.put, List.setIfInBounds_toArray, List.set_cons_zero, List.set_cons_succ])
          refine take_F (i := 11) (d := some 28) (v := ?_) (by kernel_rfl) (by kernel_rfl) rfl rfl (by kernel_rfl) (by kernel_rfl) (by kernel_rfl) (fun _ _ _ h => h) (Or.inl ⟨by rfl, ?_⟩) (by assumption) ?_
          rotate_left
          · (intro w hSw; (try dsimp only at hSw); go_simp; (try rw [if_neg (by omega)]); (try (with_reducible rfl)))
          simp only [Act.put, List.setIfInBounds_toArray, List.set_cons_zero, List.set_cons_succ]
          refine take_F (i := 12) (d := some 29) (v := ?_) (by kernel_rfl) (by kernel_rfl) rfl rfl (by kernel_rfl) (by kernel_rfl) (by kernel_rfl) (fun _ _ _ h => h) (Or.inl ⟨by rfl, ?_⟩) (by assumption) ?_
          rotate_left
          · (intro w hSw; (try dsimp only at hSw); go_simp; (try rw [if_neg (by omega)]); (try (with_reducible rfl)))
          simp only [Act.put, List.setIfInBounds_toArray, List.set_cons_zero, List.set_cons_succ]
          refine done_L (by kernel_rfl) ?_ _
          refine NoPanic.normal ?_
          clear k4 q4 q5 q0 q1 c0 c1 c2 c3
          go_wp2_with fail
          go_ret
          exact ⟨ret_boolA HF.out.symm, by first | exact below_drewN HB4.out _ | exact HB4.out⟩
        · have h0' : (x0 != y0) = true := by simpa using h0
          have h0'' : (x0 == y0) = false := by simpa using h0
          clear g4 h0
          go_wp2_with fail
          refine HC.out.mono ?_; rintro e w3 ⟨rfl, hb3⟩
          have HB3 := Lib.hid (Hbl.out.trans (hb3.mono Hbl.out.size))
          have HR3 := Lib.hid (HBr.out.trans (hb3.mono HBr.out.size))
          have HA3 := Lib.hid (HAr.out.below (by omega) hb3)
          have HCQ := Lib.hid (HCP.out w3.drew g1)
          have q0 := (hb3.cell (p := ⟨b, off + k * 2, none⟩) (by have := Hbl.out.size; show b < _; omega)).trans r0
          have q1 := (hb3.cell (p := ⟨b, off + k * 2 + 1, none⟩) (by have := Hbl.out.size; show b < _; omega)).trans r1
          have hw3 := hb3.size
          clear hb3 c0 c1 c2 c3 r0 r1
          obtain ⟨c0, c1, c2, c3⟩ := HA3.out
          go_wp2_with fail
          refine wp_region_noPanic ?_
          refine wp_region_L [] (fun w' => w'.cell? ⟨W.heap.size, 0, none⟩ = some (.int .i64 u) ∧ w'.cell? ⟨W.heap.size, 1, none⟩ = some (.int .i64 l) ∧ w'.cell? ⟨W.heap.size, 2, none⟩ = some (.int .i64 w) ∧ w'.cell? ⟨W.heap.size, 3, none⟩ = some (.slice (some ⟨b, off, none⟩) rs.length c) ∧ w'.cell? ⟨b, off + k * 2, none⟩ = some (.int .i64 x0) ∧ w'.cell? ⟨b, off + k * 2 + 1, none⟩ = some (.int .i64 x1)) (by kernel_rfl) (⟨c0, c1, c2, c3, q0, q1⟩) (fun hHeld => ?_)
          refine take_F (i := 0) (d := some 17) (v := ?_) (by kernel_rfl) (by kernel_rfl) rfl rfl (by kernel_rfl) (by kernel_rfl) (by kernel_rfl) (fun _ _ _ h => h) (Or.inl ⟨by rfl, ?_⟩) (by assumption) ?_
          rotate_left
          · (intro w hSw; (try dsimp only at hSw); go_simp; (try rw [if_neg (by omega)]); (try (with_reducible rfl)))
          simp only [Act.put, List.setIfInBounds_toArray, List.set_cons_zero, List.set_cons_succ]
          refine take_F (i := 1) (d := some 18) (v := .bool false) (by kernel_rfl) (by kernel_rfl) rfl rfl (by kernel_rfl) (by kernel_rfl) (by kernel_rfl) (fun _ _ _ h => h) (Or.inl ⟨by rfl, ?_⟩) (by assumption) ?_
          · (intro w hSw; (try dsimp only at hSw); go_simp <;> first | omega | (simp; done) | (simp; omega))
          simp only [Act.put, List.setIfInBounds_toArray, List.set_cons_zero, List.set_cons_succ]
          refine take_F (i := 2) (d := some 19) (v := ?_) (by kernel_rfl) (by kernel_rfl) rfl rfl (by kernel_rfl) (by kernel_rfl) (by kernel_rfl) (fun _ _ _ h => h) (Or.inl ⟨by rfl, ?_⟩) (by assumption) ?_
          rotate_left
          · (intro w hSw; (try dsimp only at hSw); go_simp; (try rw [if_neg (by omega)]); (try (with_reducible rfl)))
          simp only [Act.put, List.setIfInBounds_toArray, List.set_cons_zero, List.set_cons_succ]
          refine take_F (i := 3) (d := some 20) (v := ?_) (by kernel_rfl) (by kernel_rfl) rfl rfl (by kernel_rfl) (by kernel_rfl) (by kernel_rfl) (fun _ _ _ h => h) (Or.inl ⟨by rfl, ?_⟩) (by assumption) ?_
          rotate_left
          · (intro w hSw; (try dsimp only at hSw); go_simp; (try rw [if_neg (by omega)]); (try (with_reducible rfl)))
          simp only [Act.put, List.setIfInBounds_toArray, List.set_cons_zero, List.set_cons_succ]
          refine take_L [11,7,6,4] (i := 4) (d := some 21) (v := ?_) (by kernel_rfl) (by kernel_rfl) (by kernel_rfl) (by kernel_rfl) rfl rfl (by kernel_rfl) (by kernel_rfl) (by kernel_rfl) (fun _ _ _ h => h) (Or.inl ⟨by rfl, ?_⟩) (by assumption) ?_
          rotate_left
          · (intro w hSw; (try dsimp only at hSw); go_simp; (try rw [if_neg (by omega)]); (try (with_reducible rfl)))
          simp only [Act.put, List.setIfInBounds_toArray, List.set_cons_zero, List.set_cons_succ]
          refine take_F (i := 5) (d := some 22) (v := ?_) (by kernel_rfl) (by kernel_rfl) rfl rfl (by kernel_rfl) (by kernel_rfl) (by kernel_rfl) (fun _ _ _ h => h) (Or.inl ⟨by rfl, ?_⟩) (by assumption) ?_
          rotate_left
          · (intro w hSw; (try dsimp only at hSw); go_simp; (try rw [if_neg (by omega)]); (try (with_reducible rfl)))
          simp only [Act.put, List.setIfInBounds_toArray, List.set_cons_zero, List.set_cons_succ]
          refine take_F (i := 6) (d := some 23) (v := ?_) (by kernel_rfl) (by kernel_rfl) rfl rfl (by kernel_rfl) (by kernel_rfl) (by kernel_rfl) (fun _ _ _ h => h) (Or.inl ⟨by rfl, ?_⟩) (by assumption) ?_
          rotate_left
          · (intro w hSw; (try dsimp only at hSw); go_simp; (try rw [if_neg (by omega)]); (try (with_reducible rfl)))
          simp only [Act.put, List.setIfInBounds_toArray, List.set_cons_zero, List.set_cons_succ]
          refine take_L [11,7] (i := 7) (d := some 24) (v := ?_) (by kernel_rfl) (by kernel_rfl) (by kernel_rfl) (by kernel_rfl) rfl rfl (by kernel_rfl) (by kernel_rfl) (by kernel_rfl) (fun _ _ _ h => h) (Or.inl ⟨by rfl, ?_⟩) (by assumption) ?_
          rotate_left
          · (intro w hSw; (try dsimp only at hSw); go_simp; (try rw [if_neg (by omega)]); (try (with_reducible rfl)))
          simp only [Act.put, List.setIfInBounds_toArray, List.set_cons_zero, List.set_cons_succ]
          refine take_L [11,10,8] (i := 8) (d := some 25) (v := ?_) (by kernel_rfl) (by kernel_rfl) (by kernel_rfl) (by kernel_rfl) rfl rfl (by kernel_rfl) (by kernel_rfl) (by kernel_rfl) (fun _ _ _ h => h) (Or.inl ⟨by rfl, ?_⟩) (by assumption) ?_
          rotate_left
          · (intro w hSw; (try dsimp only at hSw); go_simp; (try rw [if_neg (by omega)]); (try (with_reducible rfl)))
          simp only [Act.put, List.setIfInBounds_toArray, List.set_cons_zero, List.set_cons_succ]
          refine take_F (i := 9) (d := some 26) (v := ?_) (by kernel_rfl) (by kernel_rfl) rfl rfl (by kernel_rfl) (by kernel_rfl) (by kernel_rfl) (fun _ _ _ h => h) (Or.inl ⟨by rfl, ?_⟩) (by assumption) ?_
          rotate_left
          · (intro w hSw; (try dsimp only at hSw); go_simp; (try rw [if_neg (by omega)]); (try (with_reducible rfl)))
          simp only [Act.put, List.setIfInBounds_toArray, List.set_cons_zero, List.set_cons_succ]
          refine call_L (i := 10) (d := (some 27)) rfl rfl (by kernel_rfl) (fun Kq hKq => ?_)
          go_simp
          go_at_call 140
          refine HCQ.out.mono ?_; rintro e w4 ⟨rfl, hb4⟩
          have HB4 := Lib.hid (HB3.out.trans (below_undrew (hb4.mono HB3.out.size)))
          have HR4 := Lib.hid (HR3.out.trans (below_undrew (hb4.mono HR3.out.size)))
          have k4 := HA3.out.below (show W.heap.size < w3.heap.size by omega) (below_undrew hb4)
          have q4 := ((below_undrew hb4).cell (p := ⟨b, off + k * 2, none⟩) (show b < w3.heap.size by have := HB3.out.size; omega)).trans q0
          have q5 := ((below_undrew hb4).cell (p := ⟨b, off + k * 2 + 1, none⟩) (show b < w3.heap.size by have := HB3.out.size; omega)).trans q1
          clear hb4
          (try go_wp2_with fail)
          refine hKq.out _ _ (⟨k4.c0, k4.c1, k4.c2, k4.c3, q4, q5⟩) (fun hHeld => ?_)
          clear hKq Kq
          (try simp only [Act.put, List.setIfInBounds_toArray, List.set_cons_zero, List.set_cons_succ])
          refine take_F (i := 11) (d := some 28) (v := ?_) (by kernel_rfl) (by kernel_rfl) rfl rfl (by kernel_rfl) (by kernel_rfl) (by kernel_rfl) (fun _ _ _ h => h) (Or.inl ⟨by rfl, ?_⟩) (by assumption) ?_
          rotate_left
          · (intro w hSw; (try dsimp only at hSw); go_simp; (try rw [if_neg (by omega)]); (try (with_reducible rfl)))
          simp only [Act.put, List.setIfInBounds_toArray, List.set_cons_zero, List.set_cons_succ]
          refine take_F (i := 12) (d := some 29) (v := ?_) (by kernel_rfl) (by kernel_rfl) rfl rfl (by kernel_rfl) (by kernel_rfl) (by kernel_rfl) (fun _ _ _ h => h) (Or.inl ⟨by rfl, ?_⟩) (by assumption) ?_
          rotate_left
          · (intro w hSw; (try dsimp only at hSw); go_simp; (try rw [if_neg (by omega)]); (try (with_reducible rfl)))
          simp only [Act.put, List.setIfInBounds_toArray, List.set_cons_zero, List.set_cons_succ]
          refine done_L (by kernel_rfl) ?_ _
          refine NoPanic.normal ?_
          clear k4 q4 q5 q0 q1 c0 c1 c2 c3
          go_wp2_with fail
          go_ret
          exact ⟨ret_boolA HF.out.symm, by first | exact below_drewN HB4.out _ | exact HB4.out⟩
      · have HF := Lib.hid (HYk.out g3)
        injection g2 with g2 g4
        subst g2 g4
        clear g3 HNk HYk
        go_wp2_with fail
        refine HC.out.mono ?_; rintro e w3 ⟨rfl, hb3⟩
        have HB3 := Lib.hid (Hbl.out.trans (hb3.mono Hbl.out.size))
        have HR3 := Lib.hid (HBr.out.trans (hb3.mono HBr.out.size))
        have HA3 := Lib.hid (HAr.out.below (by omega) hb3)
        have HCQ := Lib.hid (HCP.out w3.drew g1)
        have q0 := (hb3.cell (p := ⟨b, off + k * 2, none⟩) (by have := Hbl.out.size; show b < _; omega)).trans r0
        have q1 := (hb3.cell (p := ⟨b, off + k * 2 + 1, none⟩) (by have := Hbl.out.size; show b < _; omega)).trans r1
        have hw3 := hb3.size
        clear hb3 c0 c1 c2 c3 r0 r1
        obtain ⟨c0, c1, c2, c3⟩ := HA3.out
        go_wp2_with fail
        refine wp_region_noPanic ?_
        refine wp_region_L [] (fun w' => w'.cell? ⟨W.heap.size, 0, none⟩ = some (.int .i64 u) ∧ w'.cell? ⟨W.heap.size, 1, none⟩ = some (.int .i64 l) ∧ w'.cell? ⟨W.heap.size, 2, none⟩ = some (.int .i64 w) ∧ w'.cell? ⟨W.heap.size, 3, none⟩ = some (.slice (some ⟨b, off, none⟩) rs.length c) ∧ w'.cell? ⟨b, off + k * 2, none⟩ = some (.int .i64 x0) ∧ w'.cell? ⟨b, off + k * 2 + 1, none⟩ = some (.int .i64 x1)) (by kernel_rfl) (⟨c0, c1, c2, c3, q0, q1⟩) (fun hHeld => ?_)
        refine take_F (i := 0) (d := some 17) (v := ?_) (by kernel_rfl) (by kernel_rfl) rfl rfl (by kernel_rfl) (by kernel_rfl) (by kernel_rfl) (fun _ _ _ h => h) (Or.inl ⟨by rfl, ?_⟩) (by assumption) ?_
        rotate_left
        · (intro w hSw; (try dsimp only at hSw); go_simp; (try rw [if_neg (by omega)]); (try (with_reducible rfl)))
        simp only [Act.put, List.setIfInBounds_toArray, List.set_cons_zero, List.set_cons_succ]
        refine take_F (i := 1) (d := some 18) (v := .bool false) (by kernel_rfl) (by kernel_rfl) rfl rfl (by kernel_rfl) (by kernel_rfl) (by kernel_rfl) (fun _ _ _ h => h) (Or.inl ⟨by rfl, ?_⟩) (by assumption) ?_
        · (intro w hSw; (try dsimp only at hSw); go_simp <;> first | omega | (simp; done) | (simp; omega))
        simp only [Act.put, List.setIfInBounds_toArray, List.set_cons_zero, List.set_cons_succ]
        refine take_F (i := 2) (d := some 19) (v := ?_) (by kernel_rfl) (by kernel_rfl) rfl rfl (by kernel_rfl) (by kernel_rfl) (by kernel_rfl) (fun _ _ _ h => h) (Or.inl ⟨by rfl, ?_⟩) (by assumption) ?_
        rotate_left
        · (intro w hSw; (try dsimp only at hSw); go_simp; (try rw [if_neg (by omega)]); (try (with_reducible rfl)))
        simp only [Act.put, List.setIfInBounds_toArray, List.set_cons_zero, List.set_cons_succ]
        refine take_F (i := 3) (d := some 20) (v := ?_) (by kernel_rfl) (by kernel_rfl) rfl rfl (by kernel_rfl) (by kernel_rfl) (by kernel_rfl) (fun _ _ _ h => h) (Or.inl ⟨by rfl, ?_⟩) (by assumption) ?_
        rotate_left
        · (intro w hSw; (try dsimp only at hSw); go_simp; (try rw [if_neg (by omega)]); (try (with_reducible rfl)))
        simp only [Act.put, List.setIfInBounds_toArray, List.set_cons_zero, List.set_cons_succ]
        refine take_L [11,7,6,4] (i := 4) (d := some 21) (v := ?_) (by kernel_rfl) (by kernel_rfl) (by kernel_rfl) (by kernel_rfl) rfl rfl (by kernel_rfl) (by kernel_rfl) (by kernel_rfl) (fun _ _ _ h => h) (Or.inl ⟨by rfl, ?_⟩) (by assumption) ?_
        rotate_left
        · (intro w hSw; (try dsimp only at hSw); go_simp; (try rw [if_neg (by omega)]); (try (with_reducible rfl)))
        simp only [Act.put, List.setIfInBounds_toArray, List.set_cons_zero, List.set_cons_succ]
        refine take_F (i := 5) (d := some 22) (v := ?_) (by kernel_rfl) (by kernel_rfl) rfl rfl (by kernel_rfl) (by kernel_rfl) (by kernel_rfl) (fun _ _ _ h => h) (Or.inl ⟨by rfl, ?_⟩) (by assumption) ?_
        rotate_left
        · (intro w hSw; (try dsimp only at hSw); go_simp; (try rw [if_neg (by omega)]); (try (with_reducible rfl)))
        simp only [Act.put, List.setIfInBounds_toArray, List.set_cons_zero, List.set_cons_succ]
        refine take_F (i := 6) (d := some 23) (v := ?_) (by kernel_rfl) (by kernel_rfl) rfl rfl (by kernel_rfl) (by kernel_rfl) (by kernel_rfl) (fun _ _ _ h => h) (Or.inl ⟨by rfl, ?_⟩) (by assumption) ?_
        rotate_left
        · (intro w hSw; (try dsimp only at hSw); go_simp; (try rw [if_neg (by omega)]); (try (with_reducible rfl)))
        simp only [Act.put, List.setIfInBounds_toArray, List.set_cons_zero, List.set_cons_succ]
        refine take_L [11,7] (i := 7) (d := some 24) (v := ?_) (by kernel_rfl) (by kernel_rfl) (by kernel_rfl) (by kernel_rfl) rfl rfl (by kernel_rfl) (by kernel_rfl) (by kernel_rfl) (fun _ _ _ h => h) (Or.inl ⟨by rfl, ?_⟩) (by assumption) ?_
        rotate_left
        · (intro w hSw; (try dsimp only at hSw); go_simp; (try rw [if_neg (by omega)]); (try (with_reducible rfl)))
        simp only [Act.put, List.setIfInBounds_toArray, List.set_cons_zero, List.set_cons_succ]
        refine take_L [11,10,8] (i := 8) (d := some 25) (v := ?_) (by kernel_rfl) (by kernel_rfl) (by kernel_rfl) (by kernel_rfl) rfl rfl (by kernel_rfl) (by kernel_rfl) (by kernel_rfl) (fun _ _ _ h => h) (Or.inl ⟨by rfl, ?_⟩) (by assumption) ?_
        rotate_left
        · (intro w hSw; (try dsimp only at hSw); go_simp; (try rw [if_neg (by omega)]); (try (with_reducible rfl)))
        simp only [Act.put, List.setIfInBounds_toArray, List.set_cons_zero, List.set_cons_succ]
        refine take_F (i := 9) (d := some 26) (v := ?_) (by kernel_rfl) (by kernel_rfl) rfl rfl (by kernel_rfl) (by kernel_rfl) (by kernel_rfl) (fun _ _ _ h => h) (Or.inl ⟨by rfl, ?_⟩) (by assumption) ?_
        rotate_left
        · (intro w hSw; (try dsimp only at hSw); go_simp; (try rw [if_neg (by omega)]); (try (with_reducible rfl)))
        simp only [Act.put, List.setIfInBounds_toArray, List.set_cons_zero, List.set_cons_succ]
        refine call_L (i := 10) (d := (some 27)) rfl rfl (by kernel_rfl) (fun Kq hKq => ?_)
        go_simp
        go_at_call 140
        refine HCQ.out.mono ?_; rintro e w4 ⟨rfl, hb4⟩
        have HB4 := Lib.hid (HB3.out.trans (below_undrew (hb4.mono HB3.out.size)))
        have HR4 := Lib.hid (HR3.out.trans (below_undrew (hb4.mono HR3.out.size)))
        have k4 := HA3.out.below (show W.heap.size < w3.heap.size by omega) (below_undrew hb4)
        have q4 := ((below_undrew hb4).cell (p := ⟨b, off + k * 2, none⟩) (show b < w3.heap.size by have := HB3.out.size; omega)).trans q0
        have q5 := ((below_undrew hb4).cell (p := ⟨b, off + k * 2 + 1, none⟩) (show b < w3.heap.size by have := HB3.out.size; omega)).trans q1
        clear hb4
        (try go_wp2_with fail)
        refine hKq.out _ _ (⟨k4.c0, k4.c1, k4.c2, k4.c3, q4, q5⟩) (fun hHeld => ?_)
        clear hKq Kq
        (try simp only [Act.put, List.setIfInBounds_toArray, List.set_cons_zero, List.set_cons_succ])
        refine take_F (i := 11) (d := some 28) (v := ?_) (by kernel_rfl) (by kernel_rfl) rfl rfl (by kernel_rfl) (by kernel_rfl) (by kernel_rfl) (fun _ _ _ h => h) (Or.inl ⟨by rfl, ?_⟩) (by assumption) ?_
        rotate_left
        · (intro w hSw; (try dsimp only at hSw); go_simp; (try rw [if_neg (by omega)]); (try (with_reducible rfl)))
        simp only [Act.put, List.setIfInBounds_toArray, List.set_cons_zero, List.set_cons_succ]
        refine take_F (i := 12) (d := some 29) (v := ?_) (by kernel_rfl) (by kernel_rfl) rfl rfl (by kernel_rfl) (by kernel_rfl) (by kernel_rfl) (fun _ _ _ h => h) (Or.inl ⟨by rfl, ?_⟩) (by assumption) ?_
        rotate_left
        · (intro w hSw; (try dsimp only at hSw); go_simp; (try rw [if_neg (by omega)]); (try (with_reducible rfl)))
        simp only [Act.put, List.setIfInBounds_toArray, List.set_cons_zero, List.set_cons_succ]
        refine done_L (by kernel_rfl) ?_ _
        refine NoPanic.normal ?_
        clear k4 q4 q5 q0 q1 c0 c1 c2 c3
        go_wp2_with fail
        go_roundw
        case rel => exact ⟨k + 1, by omega, by go_num, HF.out, by first | exact HR4.out | exact below_drewN HR4.out _⟩
        case measure => first | (simp [intOf]; done) | (simp [intOf]; omega)
    · have hkn : k = rs.length := by omega
      subst hkn
      have hlt' : ¬ (rs.length : Int) < (rs.length : Int) := by omega
      have HF := Lib.hid (show isPl ⟨u, l, w, rs⟩ = true by
        have h1 := Hal.out
        rw [List.take_length] at h1
        rw [HIS.out, h1])
      go_wp2_with fail
      go_ret
      exact ⟨ret_boolA HF.out.symm, Hbl.out⟩
end Go.Proofs.Ythemffbkkhaaoaa
/- Drums: names; lists that are equal. -/
namespace Go.Proofs.Ythemffbkkhaaoaa
open Go.RowKit Go.Joins

theorem ret_boolD {a b : Bool} (h : a = b) : Ending.returned (.bool a) = .returned (.bool b) := by rw [h]
theorem f6ints_sameD (B1 B2 : Nat) (v1 v2 : Value) (n : Nat) (f g : Nat → Int) (w : World) (h : Rd w B1 v1 n 1 (tab n f)) (h' : Rd w B2 v2 n 1 (tab n g)) (hn : n ≤ 1000) (he : ∀ i, i < n → f i = g i) :
    Calls Try.prog 26 #[v1, v2] w fun e w' => e = .returned (.bool true) ∧ ∃ k, w' = w.drewN k := by
  have H := Lib.hid h
  have H' := Lib.hid h'
  have HE := Lib.hid he
  obtain ⟨A, c, rfl⟩ := rd_sl h
  obtain ⟨A', c', rfl⟩ := rd_sl h'
  clear h h' he
  go_enter Try.func26, Try.ntmps26
  go_wp2_with fail
  go_loopw [5] (fun i wr => ∃ (k d : Nat), k ≤ n ∧ i = .int .i64 (k : Int) ∧ wr = w.drewN d) (fun i _ => n - (intOf i).toNat)
  case atStart => exact ⟨0, 0, Nat.zero_le _, rfl, rfl⟩
  case round =>
    obtain ⟨k, d, hk, rfl, rfl⟩ := hrel
    by_cases hlt : k < n
    · obtain ⟨b1, o1, hA, _, hcc⟩ := rdF_all H.out (by omega)
      obtain ⟨b2, o2, hA', _, hcc'⟩ := rdF_all H'.out (by omega)
      subst hA hA'
      have q0 := hcc k hlt
      have q1 := hcc' k hlt
      rw [← HE.out k hlt] at q1
      have hlt' : (k : Int) < (n : Int) := by omega
      generalize f k = x at *
      clear hcc hcc'
      go_wp2_with fail
      go_quiet (fail)
      go_wp2_with fail
      go_roundw
      case rel => exact ⟨k + 1, d + _, by omega, by go_num, rfl⟩
      case measure => first | (simp [intOf]; done) | (simp [intOf]; omega)
    · have hlt' : (n : Int) ≤ (k : Int) := by omega
      go_wp2_with fail
      go_ret
      exact ⟨rfl, d, rfl⟩
theorem f6big_D (B n : Nat) (v : Value) (xs : List Value) (w : World) (h : Rd w B v n 1 xs) : Calls Try.prog 9 #[v] w fun e w' => e = .returned (.bool (decide (4096 < n))) ∧ w = w' := by
  obtain ⟨A, c, rfl⟩ := rd_sl h
  clear h
  by_cases hc : 4096 < n
  · have h1 : (4096 : Int) < (n : Int) := by omega
    go_enter Try.func9, Try.ntmps9
    go_wp2_with fail
    go_ret
    exact ⟨ret_boolD (by simp [hc]), rfl⟩
  · have h1 : ¬ (4096 : Int) < (n : Int) := by omega
    go_enter Try.func9, Try.ntmps9
    go_wp2_with fail
    go_ret
    exact ⟨ret_boolD (by simp [hc]), rfl⟩
set_option maxRecDepth 100000 in
set_option maxHeartbeats 800000 in
theorem f6texts_sameD (B1 B2 : Nat) (v1 v2 : Value) (xs : List ByteArray) (w : World) (h1 : Rd w B1 v1 xs.length 1 (xs.map Value.string)) (h2 : Rd w B2 v2 xs.length 1 (xs.map Value.string)) (hx : xs.length ≤ 1048576) :
    Calls Try.prog 27 #[v1, v2] w fun e w' => e = .returned (.bool true) ∧ ∃ n, w' = w.drewN n := by
  have H1 := Lib.hid h1
  have H2 := Lib.hid h2
  obtain ⟨_, A1, c1, rfl, hc1⟩ := h1
  obtain ⟨_, A2, c2, rfl, hc2⟩ := h2
  have HC1 := Lib.hid hc1
  have HC2 := Lib.hid hc2
  clear hc1 hc2
  go_enter Try.func27, Try.ntmps27
  go_wp2_with fail
  go_loopw [5] (fun i wr => ∃ k : Nat, k ≤ xs.length ∧ i = .int .i64 (k : Int) ∧ ∃ n, wr = w.drewN n) (fun i _ => xs.length - (intOf i).toNat)
  case atStart => exact ⟨0, Nat.zero_le _, rfl, 0, rfl⟩
  case round =>
    obtain ⟨k, hk, rfl, n0, rfl⟩ := hrel
    by_cases hlt : k < xs.length
    · have hlt' : (k : Int) < (xs.length : Int) := by omega
      obtain ⟨b1, o1, hA1, _, p⟩ := HC1.out (by omega)
      obtain ⟨b2, o2, hA2, _, q⟩ := HC2.out (by omega)
      subst hA1 hA2
      have p0 := p k (.string xs[k]) (by rw [List.getElem?_map, List.getElem?_eq_getElem hlt]; rfl)
      have q0 := q k (.string xs[k]) (by rw [List.getElem?_map, List.getElem?_eq_getElem hlt]; rfl)
      have hkz : (0 : Int) ≤ (k : Int) := by omega
      generalize xs[k] = x at *
      clear p q
      go_wp2_with fail
      go_quiet (fail)
      go_wp2_with fail
      go_roundw
      case rel => exact ⟨k + 1, by omega, by go_num, _, rfl⟩
      case measure => simp [intOf]; omega
    · have hlt' : (xs.length : Int) ≤ (k : Int) := by omega
      go_wp2_with fail
      go_ret
      exact ⟨rfl, n0, rfl⟩
def nameDm (n : Int) : ByteArray := if n = 1 then ⟨#[115, 116, 101, 112, 112, 101, 100]⟩ else if n = 2 then ⟨#[112, 105, 110, 115]⟩ else if n = 3 then ⟨#[114, 97, 99, 107]⟩ else ⟨#[]⟩
theorem name_cases (n : Int) : n = 1 ∨ n = 2 ∨ n = 3 ∨ (n ≠ 1 ∧ n ≠ 2 ∧ n ≠ 3 ∧ inB n 1 3 = false ∧ nameDm n = ⟨#[]⟩) := by
  by_cases h1 : n = 1
  · exact .inl h1
  · by_cases h2 : n = 2
    · exact .inr (.inl h2)
    · by_cases h3 : n = 3
      · exact .inr (.inr (.inl h3))
      · refine .inr (.inr (.inr ⟨h1, h2, h3, ?_, by unfold nameDm; rw [if_neg h1, if_neg h2, if_neg h3]⟩))
        unfold inB
        simp
        omega
set_option maxRecDepth 100000 in
set_option maxHeartbeats 400000 in
theorem NameI_any (n : Int) (w : World) : Calls Try.prog 28 #[.int .i64 n] w fun e w' => e = .returned (.string (nameDm n)) ∧ w = w' := by
  rcases name_cases n with rfl | rfl | rfl | ⟨h1, h2, h3, _, h5⟩
  · go_enter Try.func28, Try.ntmps28
    go_wp2_with fail
    go_ret
    exact ⟨rfl, rfl⟩
  · go_enter Try.func28, Try.ntmps28
    go_wp2_with fail
    go_ret
    exact ⟨rfl, rfl⟩
  · go_enter Try.func28, Try.ntmps28
    go_wp2_with fail
    go_ret
    exact ⟨rfl, rfl⟩
  · have e1 : (n == 1) = false := by simpa using h1
    have e2 : (n == 2) = false := by simpa using h2
    have e3 : (n == 3) = false := by simpa using h3
    rw [h5]
    go_enter Try.func28, Try.ntmps28
    go_wp2_with fail
    go_ret
    exact ⟨rfl, rfl⟩
def nmS : List ByteArray := [⟨#[115, 116, 101, 112, 112, 101, 100]⟩, ⟨#[112, 105, 110, 115]⟩, ⟨#[114, 97, 99, 107]⟩]
theorem nm_new (w : World) (i : Nat) (z : ByteArray) (hz : nmS[i]? = some z) : (w.alloc (.cells #[.string ⟨#[115, 116, 101, 112, 112, 101, 100]⟩, .string ⟨#[112, 105, 110, 115]⟩, .string ⟨#[114, 97, 99, 107]⟩] 9)).cell? ⟨w.heap.size, i, none⟩ = some (.string z) := by
  have := new_cells w #[.string ⟨#[115, 116, 101, 112, 112, 101, 100]⟩, .string ⟨#[112, 105, 110, 115]⟩, .string ⟨#[114, 97, 99, 107]⟩] 9 i (.string z) (by
    have h := congrArg (fun o => o.map Value.string) hz
    rw [Option.map_some] at h
    rw [← h]
    rcases i with _ | _ | _ | i <;> simp [nmS])
  rwa [show (⟨w.heap.size, 0, none⟩ : Addr).add i = ⟨w.heap.size, i, none⟩ by unfold Addr.add; split <;> simp_all] at this
set_option maxRecDepth 100000 in
set_option maxHeartbeats 800000 in
theorem NameS_any (n : Int) (w : World) : Calls Try.prog 29 #[.int .i64 n] w fun e w' => e = .returned (.string (nameDm n)) ∧ Below w.heap.size w w' := by
  have hb := Lib.hid ((Below.refl w.heap.size w).alloc (Nat.le_refl _) (.cells #[.string ⟨#[115, 116, 101, 112, 112, 101, 100]⟩, .string ⟨#[112, 105, 110, 115]⟩, .string ⟨#[114, 97, 99, 107]⟩] 9))
  have hc := fun (i : Nat) (z : ByteArray) (hz : nmS[i]? = some z) => nm_new w i z hz
  have c0 := hc 0 _ rfl
  have c1 := hc 1 _ rfl
  have c2 := hc 2 _ rfl
  have HI := Lib.hid (fun wx => l00In_any n 1 3 wx)
  clear hc
  rcases name_cases n with rfl | rfl | rfl | ⟨h1, h2, h3, h4, h5⟩
  · rw [show inB 1 1 3 = true from rfl] at HI
    go_enter Try.func29, Try.ntmps29
    go_wp2_with fail
    refine (HI.out _).mono ?_; rintro e w1 ⟨rfl, rfl⟩
    go_wp2_with fail
    go_ret
    exact ⟨rfl, hb.out⟩
  · rw [show inB 2 1 3 = true from rfl] at HI
    go_enter Try.func29, Try.ntmps29
    go_wp2_with fail
    refine (HI.out _).mono ?_; rintro e w1 ⟨rfl, rfl⟩
    go_wp2_with fail
    go_ret
    exact ⟨rfl, hb.out⟩
  · rw [show inB 3 1 3 = true from rfl] at HI
    go_enter Try.func29, Try.ntmps29
    go_wp2_with fail
    refine (HI.out _).mono ?_; rintro e w1 ⟨rfl, rfl⟩
    go_wp2_with fail
    go_ret
    exact ⟨rfl, hb.out⟩
  · rw [h4] at HI
    rw [h5]
    go_enter Try.func29, Try.ntmps29
    go_wp2_with fail
    refine (HI.out _).mono ?_; rintro e w1 ⟨rfl, rfl⟩
    go_wp2_with fail
    go_ret
    exact ⟨rfl, hb.out⟩
end Go.Proofs.Ythemffbkkhaaoaa
/- Drums: a text of points; lines of bytes. -/
namespace Go.Proofs.Ythemffbkkhaaoaa
open Go.RowKit Go.Joins

theorem infoBD : (Try.prog.info? 5).map (fun i => (i.zero, i.size, i.bytes)) = some (some (.int .u8 0), 1, 1) := by kernel_rfl
theorem wpList_strD {P : Program} {w : World} {ops : Array Oper} {rest : List Oper} {o : Oper} {a : Act} {Q : Exit → Act → World → Prop} (t u e : TypeId)
    (ht : P.underlying t = some (.slice e)) (hu : P.underlying u = some .string) (hinfo : (P.info? e).map (fun i => (i.zero, i.size, i.bytes)) = some (some (.int .u8 0), 1, 1))
    (sl x : Operand) (hgd : o.guard = none) (ho : o.op = .call { callee := .builtin .append, args := #[sl, x], argTypes := #[t, u] })
    (base : Nat) (v : Value) (n : Nat) (xs : List Value) (hs : a.eval sl = v) (hown : w.ownsRow base e 1 v n xs) (s : ByteArray) (hx : a.eval x = .string s)
    (h63 : n + s.size ≤ maxLen) (hbytes : n + s.size ≤ 140737488355328) (hbase : base ≤ w.heap.size)
    (h : ∀ v' w', w'.ownsRow base e 1 v' (n + s.size) (xs ++ Lib.strCells s) → w.grownBy w' v.ownBlock → wpList P ops Q rest (a.put o.dst v') w') :
    wpList P ops Q (o :: rest) a w := by
  obtain ⟨i, hi, hz, h2, h3⟩ := info_parts hinfo
  exact Lib.wpList_append_own_string w hgd sl x t u ho base e i ht hu hi hz h2 h3 v n xs hs hown s hx h63 hbytes hbase fun v' w' p q _ => h v' w' p q
theorem own_strD {w : World} {base : Nat} {e : TypeId} {o : Value} {T s R : ByteArray} (hR : T ++ s = R) (h : w.ownsRow base e 1 o (T.size + s.size) (T.data.toList.map byV ++ Lib.strCells s)) : w.ownsRow base e 1 o R.size (R.data.toList.map byV) := by
  subst hR
  rw [ByteArray.size_append]
  have e1 : (T ++ s).data.toList.map byV = T.data.toList.map byV ++ Lib.strCells s := by
    rw [ByteArray.data_append, Array.toList_append, List.map_append]; rfl
  rw [e1]; exact h

def dots (n : Nat) : ByteArray := ⟨(List.replicate n (46 : UInt8)).toArray⟩
theorem dots_size (n : Nat) : (dots n).size = n := by unfold dots; show (List.replicate n (46 : UInt8)).toArray.size = n; simp
theorem dots_succ (n : Nat) : dots n ++ ⟨#[46]⟩ = dots (n + 1) := by
  unfold dots
  apply ByteArray.ext
  rw [ByteArray.data_append]
  apply Array.toList_inj.mp
  rw [Array.toList_append, List.replicate_succ']
set_option maxRecDepth 100000 in
set_option maxHeartbeats 800000 in
theorem repeat_any (n : Nat) (hn : n ≤ 60) (w : World) : Calls Try.prog 121 #[.string ⟨#[46]⟩, .int .i64 (n : Int)] w fun e w' => e = .returned (.string (dots n)) ∧ Below w.heap.size w w' := by
  have hb0 := Lib.hid ((Below.refl w.heap.size w).alloc (Nat.le_refl _) (.cells #[] 5))
  have ho0 := Lib.hid (World.ownsRow_made (base := w.heap.size) (e := 5) (size := 1) w #[] 0 (Nat.le_refl _) (by simp [maxLen]) rfl)
  have hmx : (if (n : Int) < 0 then (0 : Int) else (n : Int)) = (n : Int) := if_neg (by omega)
  have hmx0 : ¬ (n : Int) < 0 := by omega
  go_enter Try.func121, Try.ntmps121
  go_wp2_with fail
  go_loopw [5, 9] (fun o i wr => ∃ k : Nat, k ≤ n ∧ i = .int .i64 (k : Int) ∧ wr.ownsRow w.heap.size 5 1 o (dots k).size ((dots k).data.toList.map byV) ∧ Below w.heap.size w wr) (fun _ i _ => n - (intOf i).toNat)
  case atStart => exact ⟨0, Nat.zero_le _, rfl, ho0.out, hb0.out⟩
  case round =>
    obtain ⟨k, hk, rfl, hown, hbl⟩ := hrel
    have Hown := Lib.hid hown
    have Hbl := Lib.hid hbl
    obtain ⟨A5, c5, rfl⟩ := own_sl hown
    have hbz := hbl.size
    have hdz := dots_size k
    clear hown hbl
    by_cases hlt : k < n
    · have hlt' : (k : Int) < (n : Int) := by omega
      have r3 : (dots k).size + (⟨#[46]⟩ : ByteArray).size ≤ maxLen := by rw [hdz]; show k + 1 ≤ _; simp [maxLen]; omega
      have r2 : (dots k).size + (⟨#[46]⟩ : ByteArray).size ≤ 140737488355328 := by rw [hdz]; show k + 1 ≤ _; omega
      have Hds := Lib.hid (dots_succ k)
      clear hdz
      go_wp2_with (at_builtin; refine wpList_strD 22 9 5 Try.underlying22 Try.underlying9 infoBD _ _ rfl rfl w.heap.size _ (dots k).size _ rfl Hown.out ⟨#[46]⟩ rfl r3 r2 hbz ?_; intro v8 w8 hown8 hg8; have Hb8 := Lib.hid (below_apd Hbl.out Hown.out hg8 (Nat.le_refl _) hbz); have Ho8 := Lib.hid (own_strD Hds.out hown8); clear hown8 hg8)
      go_roundw
      case rel => exact ⟨k + 1, by omega, by go_num, Ho8.out, Hb8.out⟩
      case measure => simp [intOf]; omega
    · have hkn : k = n := by omega
      subst hkn
      have hlt' : ¬ (k : Int) < (k : Int) := by omega
      have hcv := run_conv_own 22 9 5 Try.underlying22 Try.underlying5 Try.underlying9 w.heap.size _ _ _ Hown.out
      clear hdz
      go_wp2_with fail
      go_ret
      exact ⟨rfl, Hbl.out⟩
/-- a block of bytes that may bear a mark behind them -/
structure BkF (w : World) (g n : Nat) (h : Nat → UInt8) : Prop where
  ex : ∃ (cs : Array Value) (fr : Nat × Nat), w.heap[g]? = some (.cells cs 5 fr) ∧ n ≤ cs.size ∧ (∀ i, i < n → cs[i]? = some (byV (h i))) ∧ ∀ i, i < n → (decide (fr.1 ≤ i) && decide (i < fr.2)) = false
theorem BkF.cell {w : World} {g n : Nat} {h : Nat → UInt8} (k : BkF w g n h) (i : Nat) (hi : i < n) : w.cell? ⟨g, i, none⟩ = some (byV (h i)) := by
  obtain ⟨cs, fr, h1, h2, h3, h4⟩ := k.ex
  rw [cell_of_row w g i cs _ fr h1]; exact h3 i hi
theorem BkF.free {w : World} {g n : Nat} {h : Nat → UInt8} (k : BkF w g n h) (i : Nat) (hi : i < n) : w.frozen? ⟨g, i, none⟩ = false := by
  obtain ⟨cs, fr, h1, h2, h3, h4⟩ := k.ex
  unfold World.frozen?
  rw [h1]
  exact h4 i hi
theorem BkF.lt {w : World} {g n : Nat} {h : Nat → UInt8} (k : BkF w g n h) : g < w.heap.size := by
  obtain ⟨cs, fr, h1, _⟩ := k.ex
  exact blk_ltN h1
theorem BkF.below {w w' : World} {g n : Nat} {h : Nat → UInt8} (k : BkF w g n h) (hb : Below w.heap.size w w') : BkF w' g n h := by
  have hl := k.lt
  obtain ⟨cs, fr, h1, h2⟩ := k.ex
  exact ⟨cs, fr, (hb.block g hl).trans h1, h2⟩
theorem BkF.set {w : World} {g n : Nat} {h : Nat → UInt8} (k : BkF w g n h) (i : Nat) (hi : i < n) (c : UInt8) : BkF (w.setCell ⟨g, i, none⟩ (byV c)) g n (fun x => if x = i then c else h x) := by
  obtain ⟨cs, fr, h1, h2, h3, h4⟩ := k.ex
  refine ⟨cs.setIfInBounds i (byV c), fr, ?_, by simpa using h2, fun j hj => ?_, h4⟩
  · show (w.heap.modify g _)[g]? = _
    rw [Array.getElem?_modify]
    simp [h1]
  · rw [Array.getElem?_setIfInBounds]
    by_cases e : j = i
    · subst e
      simp
      omega
    · rw [if_neg (fun h => e h.symm), if_neg e]; exact h3 j hj
theorem BkF.text {w : World} {g n cap : Nat} {h : Nat → UInt8} (k : BkF w g n h) : (convert 22 9 (.slice (some ⟨g, 0, none⟩) n cap)).run Try.prog w = .ok (.string ⟨((List.range n).map h).toArray⟩) w := by
  have := run_convert_bytes_back (P := Try.prog) w 22 9 5 ⟨g, 0, none⟩ cap ((List.range n).map h) Try.underlying22 Try.underlying5 Try.underlying9 (fun j hj => by
    have hj' : j < n := by simpa using hj
    rw [show (⟨g, 0, none⟩ : Addr).add j = ⟨g, j, none⟩ by unfold Addr.add; split <;> simp_all]
    rw [k.cell j hj']
    simp [byV])
  simpa using this
end Go.Proofs.Ythemffbkkhaaoaa
