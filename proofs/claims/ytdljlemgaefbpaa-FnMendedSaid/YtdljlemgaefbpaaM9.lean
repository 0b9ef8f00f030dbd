/- Mended rows, part 9: what the law draws. -/
import Derived.Test.YtdljlemgaefbpaaM8
namespace Go.Proofs.Ytdljlemgaefbpaa
open Go.RowKit Go.Joins
attribute [local go_sem ↓] Go.wp_at_zero Go.wp_at_succ

def RetDP2 (w : World) (e : Ending) (w' : World) : Prop :=
  ∃ s a b v n f x, e = .returned (.tuple #[.agg #[.string s, .int .i64 a, .int .i64 b, v], .int .i64 x]) ∧ s.size ≤ 1000 ∧ n ≤ 61 ∧ w'.ownsRow w.heap.size 2 1 v n (tab n f) ∧ Below w.heap.size w w'
def RetDP3 (w : World) (e : Ending) (w' : World) : Prop :=
  ∃ s a b v n f x y, e = .returned (.tuple #[.agg #[.string s, .int .i64 a, .int .i64 b, v], .int .i64 x, .int .i64 y]) ∧ s.size ≤ 1000 ∧ n ≤ 61 ∧ w'.ownsRow w.heap.size 2 1 v n (tab n f) ∧ Below w.heap.size w w'
set_option maxRecDepth 100000 in
set_option maxHeartbeats 3200000 in
theorem DrawOddRows_c (B : Nat) (cv : Value) (bs : List UInt8) (w : World) (h : Rd w B cv bs.length 1 (bs.map byV)) (hB : B ≤ w.heap.size) : Calls Try.prog 50 #[cv] w (RetDP2 w) := by
  have hA := (Below.refl w.heap.size w).alloc (Nat.le_refl _) (.cells #[.string ⟨#[]⟩, .int .i64 0, .int .i64 0, .slice none 0 0] 49)
  have HF := Lib.hid (l00From_any B cv bs _ (h.below (hA.mono hB)) (Nat.le_trans hB hA.size))
  have HZ1 := Lib.hid (heap_alloc_new w (.cells #[.string ⟨#[]⟩, .int .i64 0, .int .i64 0, .slice none 0 0] 49))
  have Hb1 := Lib.hid hA
  have hlt1 : w.heap.size < (w.alloc (.cells #[.string ⟨#[]⟩, .int .i64 0, .int .i64 0, .slice none 0 0] 49)).heap.size := by simp
  obtain ⟨A, c, rfl⟩ := rd_sl h
  clear h hA
  go_enter Try.func50, Try.ntmps50
  go_wp2_with fail
  generalize w.alloc (.cells #[.string ⟨#[]⟩, .int .i64 0, .int .i64 0, .slice none 0 0] 49) = w1 at *
  refine HF.out.mono ?_; rintro e w2 ⟨rfl, hs2, hb2, hlt2⟩
  have Hs2 := Lib.hid hs2
  have HZ2 := Lib.hid ((hb2.block w.heap.size hlt1).trans HZ1.out)
  have Hb2 := Lib.hid (Hb1.out.trans (hb2.mono (Nat.le_of_lt hlt1)))
  clear hs2 hb2 HZ1 Hb1 HF
  go_wp2_with fail
  generalize w1.heap.size = gs at *
  refine (l18Bent_c B gs 0 bs w2 Hs2.out (by omega)).mono ?_; rintro e w3 ⟨s, a, b, v, n, f, rfl, hss, _, hn61, ho3, hs3, hg3⟩
  obtain ⟨A3, c3, rfl⟩ := own_sl ho3
  have hZ3 := (hg3.block w.heap.size (Nat.lt_trans hlt1 hlt2) (fun e => by injection e; omega)).trans HZ2.out
  have hb3 := Hb2.out.grown hg3 Hb2.out.size (fun k hk => by cases hk; omega)
  have hA := (Below.refl w3.heap.size w3).alloc (Nat.le_refl _) (.cells #[.string s, .int .i64 a, .int .i64 b, .slice A3 n c3] 49)
  have hlt3 : w.heap.size < w3.heap.size := Nat.lt_of_lt_of_le (Nat.lt_trans hlt1 hlt2) hg3.size
  have HZ4 := Lib.hid ((hA.block w.heap.size hlt3).trans hZ3)
  have HP4 := Lib.hid (heap_alloc_new w3 (.cells #[.string s, .int .i64 a, .int .i64 b, .slice A3 n c3] 49))
  have Hb4 := Lib.hid (hb3.trans (hA.mono hb3.size))
  have Ho4 := Lib.hid (ownsRow_le (ho3.alloc (.cells #[.string s, .int .i64 a, .int .i64 b, .slice A3 n c3] 49)) (show gs + 1 ≤ w2.heap.size by omega))
  have Hs4 := Lib.hid (hs3.below hA)
  have hgp : gs < w3.heap.size := Nat.lt_of_lt_of_le hlt2 hg3.size
  clear ho3 hs3 hg3 hZ3 hb3 hA HZ2 Hb2 Hs2
  go_upto_region 3 with (fail)
  generalize hl4 : w3.heap.size = gp at *
  generalize w3.alloc (.cells #[.string s, .int .i64 a, .int .i64 b, .slice A3 n c3] 49) = w4 at *
  clear hl4
  obtain ⟨p0, p1, p2, p3, _⟩ := blk4 HP4.out
  refine wp_region_noPanic ?_
  refine wp_region_L [4,3] (fun w' => w'.cell? ⟨gp, 0, none⟩ = some (.string s) ∧ w'.cell? ⟨gp, 1, none⟩ = some (.int .i64 a) ∧ w'.cell? ⟨gp, 2, none⟩ = some (.int .i64 b) ∧ w'.cell? ⟨gp, 3, none⟩ = some (.slice A3 n c3)) (by kernel_rfl) (⟨p0, p1, p2, p3⟩) (fun hHeld => ?_)
  refine take_L [0] (i := 0) (d := some 10) (v := ?_) (by kernel_rfl) (by kernel_rfl) (by kernel_rfl) (by kernel_rfl) rfl rfl (by kernel_rfl) (by kernel_rfl) (by kernel_rfl) (fun _ _ _ h => h) (Or.inl ⟨by rfl, ?_⟩) (by assumption) ?_
  rotate_left
  · (intro w hSw; (try dsimp only at hSw); go_simp; (try (with_reducible rfl)))
  simp only [Act.put, List.setIfInBounds_toArray, List.set_cons_zero, List.set_cons_succ]
  refine take_F (i := 1) (d := some 11) (v := ?_) (by kernel_rfl) (by kernel_rfl) rfl rfl (by kernel_rfl) (by kernel_rfl) (by kernel_rfl) (fun _ _ _ h => h) (Or.inl ⟨by rfl, ?_⟩) (by assumption) ?_
  rotate_left
  · (intro w hSw; (try dsimp only at hSw); go_simp; (try (with_reducible rfl)))
  simp only [Act.put, List.setIfInBounds_toArray, List.set_cons_zero, List.set_cons_succ]
  refine call_L (i := 2) (d := (some 12)) rfl rfl (by kernel_rfl) (fun Kq hKq => ?_)
  go_simp
  go_at_call 126
  refine (l18DrawOrder_c B gs _ bs w4.drew Hs4.out.drew (by omega)).mono ?_; rintro e w7 ⟨x, rfl, _, hs7, hg7⟩
  have hg7 := grown_undrew hg7
  have hZ := (hg7.block w.heap.size (Array.getElem?_eq_some_iff.1 HZ4.out).1 (fun e => by injection e; omega)).trans HZ4.out
  have hP := (hg7.block gp (Array.getElem?_eq_some_iff.1 HP4.out).1 (fun e => by injection e; omega)).trans HP4.out
  have hb7 := Hb4.out.grown hg7 Hb4.out.size (fun k hk => by cases hk; omega)
  have ho7 := own_gs Ho4.out hg7 (Nat.lt_succ_self _)
  obtain ⟨q0, q1, q2, q3, _⟩ := blk4 hP
  obtain ⟨z0, z1, z2, z3, zz⟩ := blk4 hZ
  have y0 := zz 0
  have y1 := zz 1
  have y2 := zz 2
  have y3 := zz 3
  obtain ⟨e0, e1, e2, e3, _⟩ := blk4 (set4 hZ (.string s) (.int .i64 a) (.int .i64 b) (.slice A3 n c3))
  have He0 := Lib.hid e0
  have He1 := Lib.hid e1
  have He2 := Lib.hid e2
  have He3 := Lib.hid e3
  have Hbe := Lib.hid (set4_below hb7 (Nat.le_refl _) (.string s) (.int .i64 a) (.int .i64 b) (.slice A3 n c3))
  have Hoe := Lib.hid (ownsRow_le (set4_own ho7 (show w.heap.size < gs + 1 by omega) (.string s) (.int .i64 a) (.int .i64 b) (.slice A3 n c3)) (show w.heap.size ≤ gs + 1 by omega))
  clear hs7 hg7 hZ hP hb7 ho7 zz e0 e1 e2 e3 p0 p1 p2 p3
  (try go_wp2_with fail)
  refine hKq.out _ _ (⟨q0, q1, q2, q3⟩) (fun hHeld => ?_)
  clear hKq Kq
  (try simp only [Act.put, List.setIfInBounds_toArray, List.set_cons_zero, List.set_cons_succ])
  refine late_L (i := 3) (d := none) (by kernel_rfl) rfl rfl (by kernel_rfl) (fun Kq hKq => ?_)
  go_simp
  refine hKq.out _ _ ?_
  clear hKq Kq
  refine late_L (i := 4) (d := (some 3)) (by kernel_rfl) rfl rfl (by kernel_rfl) (fun Kq hKq => ?_)
  go_simp
  refine hKq.out _ _ ?_
  clear hKq Kq
  refine done_L (by kernel_rfl) ?_ _
  refine NoPanic.normal ?_
  (try go_wp2_with fail)
  exact bodyPost_ret (v := .tuple #[.agg #[.string s, .int .i64 a, .int .i64 b, .slice A3 n c3], .int .i64 x]) (by simp [results, Try.results50, go_sem, He0.out, He1.out, He2.out, He3.out]) rfl ⟨s, a, b, _, n, f, x, rfl, hss, hn61, Hoe.out, Hbe.out⟩
set_option maxRecDepth 100000 in
set_option maxHeartbeats 3200000 in
theorem DrawMendRow_c (B : Nat) (cv : Value) (bs : List UInt8) (w : World) (h : Rd w B cv bs.length 1 (bs.map byV)) (hB : B ≤ w.heap.size) : Calls Try.prog 47 #[cv] w (RetDP3 w) := by
  have hA := (Below.refl w.heap.size w).alloc (Nat.le_refl _) (.cells #[.string ⟨#[]⟩, .int .i64 0, .int .i64 0, .slice none 0 0] 49)
  have HF := Lib.hid (l00From_any B cv bs _ (h.below (hA.mono hB)) (Nat.le_trans hB hA.size))
  have HZ1 := Lib.hid (heap_alloc_new w (.cells #[.string ⟨#[]⟩, .int .i64 0, .int .i64 0, .slice none 0 0] 49))
  have Hb1 := Lib.hid hA
  have hlt1 : w.heap.size < (w.alloc (.cells #[.string ⟨#[]⟩, .int .i64 0, .int .i64 0, .slice none 0 0] 49)).heap.size := by simp
  obtain ⟨A, c, rfl⟩ := rd_sl h
  clear h hA
  go_enter Try.func47, Try.ntmps47
  go_wp2_with fail
  generalize w.alloc (.cells #[.string ⟨#[]⟩, .int .i64 0, .int .i64 0, .slice none 0 0] 49) = w1 at *
  refine HF.out.mono ?_; rintro e w2 ⟨rfl, hs2, hb2, hlt2⟩
  have Hs2 := Lib.hid hs2
  have HZ2 := Lib.hid ((hb2.block w.heap.size hlt1).trans HZ1.out)
  have Hb2 := Lib.hid (Hb1.out.trans (hb2.mono (Nat.le_of_lt hlt1)))
  clear hs2 hb2 HZ1 Hb1 HF
  go_wp2_with fail
  generalize w1.heap.size = gs at *
  refine (l18Bent_c B gs 0 bs w2 Hs2.out (by omega)).mono ?_; rintro e w3 ⟨s, a, b, v, n, f, rfl, hss, _, hn61, ho3, hs3, hg3⟩
  obtain ⟨A3, c3, rfl⟩ := own_sl ho3
  have hZ3 := (hg3.block w.heap.size (Nat.lt_trans hlt1 hlt2) (fun e => by injection e; omega)).trans HZ2.out
  have hb3 := Hb2.out.grown hg3 Hb2.out.size (fun k hk => by cases hk; omega)
  have hA := (Below.refl w3.heap.size w3).alloc (Nat.le_refl _) (.cells #[.string s, .int .i64 a, .int .i64 b, .slice A3 n c3] 49)
  have hlt3 : w.heap.size < w3.heap.size := Nat.lt_of_lt_of_le (Nat.lt_trans hlt1 hlt2) hg3.size
  have HZ4 := Lib.hid ((hA.block w.heap.size hlt3).trans hZ3)
  have HP4 := Lib.hid (heap_alloc_new w3 (.cells #[.string s, .int .i64 a, .int .i64 b, .slice A3 n c3] 49))
  have Hb4 := Lib.hid (hb3.trans (hA.mono hb3.size))
  have Ho4 := Lib.hid (ownsRow_le (ho3.alloc (.cells #[.string s, .int .i64 a, .int .i64 b, .slice A3 n c3] 49)) (show gs + 1 ≤ w2.heap.size by omega))
  have Hs4 := Lib.hid (hs3.below hA)
  have hgp : gs < w3.heap.size := Nat.lt_of_lt_of_le hlt2 hg3.size
  clear ho3 hs3 hg3 hZ3 hb3 hA HZ2 Hb2 Hs2
  go_upto_region 3 with (fail)
  generalize hl4 : w3.heap.size = gp at *
  generalize w3.alloc (.cells #[.string s, .int .i64 a, .int .i64 b, .slice A3 n c3] 49) = w4 at *
  clear hl4
  obtain ⟨p0, p1, p2, p3, _⟩ := blk4 HP4.out
  have hnw : IntKind.i64.wrap ((n : Int) + 1) = (n : Int) + 1 := IntWalk.i64_in _ (by omega)
  go_wp2_with fail
  refine (pick_any B gs _ bs ((n : Int) + 1) w4 Hs4.out (by omega)).mono ?_; rintro e w5 ⟨r1, rfl, ⟨hr0, hr1, hr2⟩, hs5, hg5⟩
  have hrb : 0 ≤ r1 ∧ r1 ≤ 100 := by omega
  obtain ⟨hr3, hr4⟩ := hrb
  have HZ5 := Lib.hid ((hg5.block w.heap.size (Array.getElem?_eq_some_iff.1 HZ4.out).1 (fun e => by injection e; omega)).trans HZ4.out)
  have HP5 := Lib.hid ((hg5.block gp (Array.getElem?_eq_some_iff.1 HP4.out).1 (fun e => by injection e; omega)).trans HP4.out)
  have Hb5 := Lib.hid (Hb4.out.grown hg5 Hb4.out.size (fun k hk => by cases hk; omega))
  have Ho5 := Lib.hid (own_gs Ho4.out hg5 (Nat.lt_succ_self _))
  have Hs5 := Lib.hid hs5
  clear hs5 hg5 hr1 hr2 HZ4 HP4 Hb4 Ho4 Hs4 p0 p1 p2 p3 hnw
  go_wp2_with fail
  refine (pick_any B gs _ bs 16 w5 Hs5.out (by omega)).mono ?_; rintro e w6 ⟨r2, rfl, ⟨hr5, hr6, _⟩, hs6, hg6⟩
  have hr7 := hr6 (by omega)
  have HZ4 := Lib.hid ((hg6.block w.heap.size (Array.getElem?_eq_some_iff.1 HZ5.out).1 (fun e => by injection e; omega)).trans HZ5.out)
  have HP4 := Lib.hid ((hg6.block gp (Array.getElem?_eq_some_iff.1 HP5.out).1 (fun e => by injection e; omega)).trans HP5.out)
  have Hb4 := Lib.hid (Hb5.out.grown hg6 Hb5.out.size (fun k hk => by cases hk; omega))
  have Ho4 := Lib.hid (own_gs Ho5.out hg6 (Nat.lt_succ_self _))
  have Hs4 := Lib.hid hs6
  clear hs6 hg6 hr6 HZ5 HP5 Hb5 Ho5 Hs5
  go_upto_region 4 with (fail)
  generalize r1 - r2 / 15 = rr at *
  obtain ⟨p0, p1, p2, p3, _⟩ := blk4 HP4.out
  refine wp_region_noPanic ?_
  refine wp_region_L [6,5,4] (fun w' => w'.cell? ⟨gp, 0, none⟩ = some (.string s) ∧ w'.cell? ⟨gp, 1, none⟩ = some (.int .i64 a) ∧ w'.cell? ⟨gp, 2, none⟩ = some (.int .i64 b) ∧ w'.cell? ⟨gp, 3, none⟩ = some (.slice A3 n c3)) (by kernel_rfl) (⟨p0, p1, p2, p3⟩) (fun hHeld => ?_)
  refine take_L [0] (i := 0) (d := some 22) (v := ?_) (by kernel_rfl) (by kernel_rfl) (by kernel_rfl) (by kernel_rfl) rfl rfl (by kernel_rfl) (by kernel_rfl) (by kernel_rfl) (fun _ _ _ h => h) (Or.inl ⟨by rfl, ?_⟩) (by assumption) ?_
  rotate_left
  · (intro w hSw; (try dsimp only at hSw); go_simp; (try (with_reducible rfl)))
  simp only [Act.put, List.setIfInBounds_toArray, List.set_cons_zero, List.set_cons_succ]
  refine take_F (i := 1) (d := some 23) (v := ?_) (by kernel_rfl) (by kernel_rfl) rfl rfl (by kernel_rfl) (by kernel_rfl) (by kernel_rfl) (fun _ _ _ h => h) (Or.inl ⟨by rfl, ?_⟩) (by assumption) ?_
  rotate_left
  · (intro w hSw; (try dsimp only at hSw); go_simp; (try (with_reducible rfl)))
  simp only [Act.put, List.setIfInBounds_toArray, List.set_cons_zero, List.set_cons_succ]
  refine take_F (i := 2) (d := some 24) (v := ?_) (by kernel_rfl) (by kernel_rfl) rfl rfl (by kernel_rfl) (by kernel_rfl) (by kernel_rfl) (fun _ _ _ h => h) (Or.inl ⟨by rfl, ?_⟩) (by assumption) ?_
  rotate_left
  · (intro w hSw; (try dsimp only at hSw); go_simp; (try (with_reducible rfl)))
  simp only [Act.put, List.setIfInBounds_toArray, List.set_cons_zero, List.set_cons_succ]
  refine call_L (i := 3) (d := (some 25)) rfl rfl (by kernel_rfl) (fun Kq hKq => ?_)
  go_simp
  go_at_call 126
  refine (l18DrawOrder_c B gs _ bs w6.drew Hs4.out.drew (by omega)).mono ?_; rintro e w7 ⟨x, rfl, _, hs7, hg7⟩
  have hg7 := grown_undrew hg7
  have hZ := (hg7.block w.heap.size (Array.getElem?_eq_some_iff.1 HZ4.out).1 (fun e => by injection e; omega)).trans HZ4.out
  have hP := (hg7.block gp (Array.getElem?_eq_some_iff.1 HP4.out).1 (fun e => by injection e; omega)).trans HP4.out
  have hb7 := Hb4.out.grown hg7 Hb4.out.size (fun k hk => by cases hk; omega)
  have ho7 := own_gs Ho4.out hg7 (Nat.lt_succ_self _)
  obtain ⟨q0, q1, q2, q3, _⟩ := blk4 hP
  obtain ⟨z0, z1, z2, z3, zz⟩ := blk4 hZ
  have y0 := zz 0
  have y1 := zz 1
  have y2 := zz 2
  have y3 := zz 3
  obtain ⟨e0, e1, e2, e3, _⟩ := blk4 (set4 hZ (.string s) (.int .i64 a) (.int .i64 b) (.slice A3 n c3))
  have He0 := Lib.hid e0
  have He1 := Lib.hid e1
  have He2 := Lib.hid e2
  have He3 := Lib.hid e3
  have Hbe := Lib.hid (set4_below hb7 (Nat.le_refl _) (.string s) (.int .i64 a) (.int .i64 b) (.slice A3 n c3))
  have Hoe := Lib.hid (ownsRow_le (set4_own ho7 (show w.heap.size < gs + 1 by omega) (.string s) (.int .i64 a) (.int .i64 b) (.slice A3 n c3)) (show w.heap.size ≤ gs + 1 by omega))
  clear hs7 hg7 hZ hP hb7 ho7 zz e0 e1 e2 e3 p0 p1 p2 p3
  (try go_wp2_with fail)
  refine hKq.out _ _ (⟨q0, q1, q2, q3⟩) (fun hHeld => ?_)
  clear hKq Kq
  (try simp only [Act.put, List.setIfInBounds_toArray, List.set_cons_zero, List.set_cons_succ])
  refine late_L (i := 4) (d := none) (by kernel_rfl) rfl rfl (by kernel_rfl) (fun Kq hKq => ?_)
  go_simp
  refine hKq.out _ _ ?_
  clear hKq Kq
  refine late_L (i := 5) (d := (some 3)) (by kernel_rfl) rfl rfl (by kernel_rfl) (fun Kq hKq => ?_)
  go_simp
  refine hKq.out _ _ ?_
  clear hKq Kq
  refine late_L (i := 6) (d := (some 4)) (by kernel_rfl) rfl rfl (by kernel_rfl) (fun Kq hKq => ?_)
  go_simp
  refine hKq.out _ _ ?_
  clear hKq Kq
  refine done_L (by kernel_rfl) ?_ _
  refine NoPanic.normal ?_
  (try go_wp2_with fail)
  exact bodyPost_ret (v := .tuple #[.agg #[.string s, .int .i64 a, .int .i64 b, .slice A3 n c3], .int .i64 rr, .int .i64 x]) (by simp [results, Try.results47, go_sem, He0.out, He1.out, He2.out, He3.out]) rfl ⟨s, a, b, _, n, f, rr, x, rfl, hss, hn61, Hoe.out, Hbe.out⟩
end Go.Proofs.Ytdljlemgaefbpaa
