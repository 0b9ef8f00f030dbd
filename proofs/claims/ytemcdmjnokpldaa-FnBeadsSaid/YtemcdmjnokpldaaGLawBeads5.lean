/- Merged texts: Ab23, Ab24, Ab25, Ab26, Bd3. -/
import Derived.Test.YtemcdmjnokpldaaGLawBeads4
/- Abaci that are drawn: l03Bent, values. -/
namespace Go.Proofs.Ytemcdmjnokpldaa
open Go.RowKit Go.Joins

theorem NwA.of {W w : World} {B g k r : Nat} {bs : List UInt8} {a b c v : Value} {n : Nat} {cs : List Value} (hlt : g < W.heap.size) (hs : SrcAt w B g k bs) (hg : W.grownBy w (some g)) (hr : w.heap[r]? = some (.cells #[.int .i64 0, .int .i64 0, .int .i64 0, .slice none 0 0] 26 (0, 0))) (lr : W.heap.size ≤ r) (ho : w.ownsRow W.heap.size 98 2 v n cs) :
    NwA W (w.alloc (.cells #[a, b, c, v] 26)) B g k bs r w.heap.size a b c v n cs := by
  have hb := (Below.refl w.heap.size w).alloc (Nat.le_refl _) (.cells #[a, b, c, v] 26)
  exact ⟨hlt, hs.below hb, grown_below hg hb, (hb.block _ (blk_ltN hr)).trans hr, heap_alloc_new w _, own_below ho hb, lr, blk_ltN hr⟩
theorem made10 : (madeCells (Value.agg #[.int .i64 0, .int .i64 0]).cells (10 * 2)).toList = rodsC (List.replicate 10 (0, 0)) := by kernel_rfl
theorem made11 : (madeCells (Value.agg #[.int .i64 0, .int .i64 0]).cells (11 * 2)).toList = rodsC (List.replicate 11 (0, 0)) := by kernel_rfl
/-- the row is a new one -/
theorem NwA.anewRow {W w w' : World} {B g k r q : Nat} {bs : List UInt8} {a b c v : Value} {n : Nat} {cs : List Value} (h : NwA W w B g k bs r q a b c v n cs) {v' : Value} {n' : Nat} {cs' : List Value} (hrow : w'.ownsRow W.heap.size 98 2 v' n' cs') (hg : w.grownBy w' none) : NwA W (w'.setCell ⟨q, 3, none⟩ v') B g k bs r q a b c v' n' cs' := by
  have hb : Below w.heap.size w w' := below_of_grown hg (Nat.le_refl _) (fun x hx => by cases hx)
  exact (h.below hb).set 3 v' a b c v' rfl hrow
theorem among_ind (B g k m : Nat) (l : List Int) (bs : List UInt8) (w : World) (h : SrcAt w B g k bs) (hk : k < 4611686018427387800) (hm : l.length = m) (hm2 : 2 ≤ m) (hm3 : m ≤ 200) :
    Calls Try.prog 89 #[.pointer (some ⟨g, 0, none⟩), .slice (some ⟨w.heap.size, 0, none⟩) m m] (w.alloc (.cells (l.map (Value.int .i64)).toArray 2)).drew fun e w' => ∃ x : Int, x ∈ l ∧ e = .returned (.int .i64 x) ∧ SrcAt w' B g (k + 2) bs ∧ w.grownBy w' (some g) := by
  have := among_in B g k m l bs w.drew (SrcAt.drew h) hk hm hm2 hm3
  refine Calls.mono ?_ (fun e w' (h : ∃ x : Int, x ∈ l ∧ e = .returned (.int .i64 x) ∧ SrcAt w' B g (k + 2) bs ∧ w.drew.grownBy w' (some g)) => by obtain ⟨x, h1, h2, h3, h4⟩ := h; exact ⟨x, h1, h2, h3, grown_undrew h4⟩)
  exact this
set_option maxRecDepth 100000 in
set_option maxHeartbeats 6400000 in
theorem l03Bent_any (B g k : Nat) (bs : List UInt8) (W : World) (hs : SrcAt W B g k bs) (hk : k < 4611686018427370000) : Calls Try.prog 64 #[.pointer (some ⟨g, 0, none⟩)] W (RetDa W B g (k + 70) bs (fun _ => True)) := by
  have hlt := hs.lt
  have hb0 := (Below.refl W.heap.size W).alloc (Nat.le_refl _) objZ
  have H0 := Lib.hid (hs.below hb0)
  have Hr0 := Lib.hid (heap_alloc_new W (.cells #[.int .i64 0, .int .i64 0, .int .i64 0, .slice none 0 0] 26))
  have Hg0 := Lib.hid (grown_of_below hb0 (some g))
  have hz0 := size_alloc1 W objZ
  clear hb0 hs
  go_enter Try.func64, Try.ntmps64
  go_wp2_with fail
  generalize W.alloc objZ = w1 at *
  refine (l03Draw_any B g _ bs w1 H0.out (by omega)).mono ?_; rintro e w2 ⟨⟨u, l, w, rs⟩, v, rfl, ⟨hkd, hln⟩, hl11, ho2, hs2, hg2⟩
  have HN2 := Lib.hid (NwA.of (a := .int .i64 u) (b := .int .i64 l) (c := .int .i64 w) hlt hs2 (grown_trans Hg0.out hg2) ((hg2.block W.heap.size (by omega) (fun e => by injection e; omega)).trans Hr0.out) (Nat.le_refl _) (ownsRow_le ho2 (by omega)))
  obtain ⟨u0, u4, l1, l12, w1', w10, _, _⟩ := kind_bd hkd
  dsimp only at u0 u4 l1 l12 w1' w10 hln hl11
  obtain ⟨gg, cc, rfl⟩ := ownsRow_form ho2 hln
  clear ho2 hs2 hg2 H0 Hr0 Hg0 hkd
  go_upto_region 2 with (fail)
  have hqN := HN2.out.rq
  generalize w2.heap.size = q at *
  generalize w2.alloc (.cells #[.int .i64 u, .int .i64 l, .int .i64 w, .slice (some ⟨gg, 0, none⟩) rs.length cc] 26) = w3 at *
  go_wp2_with fail
  refine (pick_any B g _ bs 24 w3 HN2.out.src (by omega)).mono ?_; rintro e w4 ⟨x, rfl, ⟨hx0, hx1, _⟩, hs4, hg4⟩
  have HN4 := Lib.hid (HN2.out.draw hs4 hg4)
  clear hs4 hg4 hx1 HN2
  go_upto_block 0 with (fail)
  go_cut [] (fun wx => ∃ (u l w : Int) (v : Value) (rs : List (Int × Int)), rs.length ≤ 11 ∧ NwA W wx B g (k + 70) bs W.heap.size q (.int .i64 u) (.int .i64 l) (.int .i64 w) v rs.length (rodsC rs))
  case first =>
    by_cases e0 : x = 0
    · subst e0
      go_wp2_with fail
      refine (among_in B g _ 5 [-1, 0, 4, 5, 9223372036854775807] bs w4 HN4.out.src (by omega) rfl (by omega) (by omega)).mono ?_; rintro e w5 ⟨z, _, rfl, hs5, hg5⟩
      have HN5 := Lib.hid (HN4.out.draw hs5 hg5)
      obtain ⟨⟨q0, q1, q2, q3⟩, f0, f1, f2, f3⟩ := blk4 HN5.out.hq
      have HN6 := Lib.hid (HN5.out.set 0 (.int .i64 z) (.int .i64 z) _ _ _ rfl HN5.out.row)
      clear hs5 hg5 HN4
      go_wp2_with fail
      go_meet
      exact ⟨z, l, w, _, rs, hl11, HN6.out.more (by omega)⟩
    have b0 : (x == 0) = false := by simpa using e0
    by_cases e1 : x = 1
    · subst e1
      go_wp2_with fail
      refine (among_in B g _ 5 [0, 1, 12, 13, -9223372036854775808] bs w4 HN4.out.src (by omega) rfl (by omega) (by omega)).mono ?_; rintro e w5 ⟨z, _, rfl, hs5, hg5⟩
      have HN5 := Lib.hid (HN4.out.draw hs5 hg5)
      obtain ⟨⟨q0, q1, q2, q3⟩, f0, f1, f2, f3⟩ := blk4 HN5.out.hq
      have HN6 := Lib.hid (HN5.out.set 1 (.int .i64 z) _ (.int .i64 z) _ _ rfl HN5.out.row)
      clear hs5 hg5 HN4
      go_wp2_with fail
      go_meet
      exact ⟨u, z, w, _, rs, hl11, HN6.out.more (by omega)⟩
    have b1 : (x == 1) = false := by simpa using e1
    by_cases e2 : x = 2
    · subst e2
      go_wp2_with fail
      refine (among_in B g _ 5 [0, 1, 10, 11, -9223372036854775808] bs w4 HN4.out.src (by omega) rfl (by omega) (by omega)).mono ?_; rintro e w5 ⟨z, _, rfl, hs5, hg5⟩
      have HN5 := Lib.hid (HN4.out.draw hs5 hg5)
      obtain ⟨⟨q0, q1, q2, q3⟩, f0, f1, f2, f3⟩ := blk4 HN5.out.hq
      have HN6 := Lib.hid (HN5.out.set 2 (.int .i64 z) _ _ (.int .i64 z) _ rfl HN5.out.row)
      clear hs5 hg5 HN4
      go_wp2_with fail
      go_meet
      exact ⟨u, l, z, _, rs, hl11, HN6.out.more (by omega)⟩
    have b2 : (x == 2) = false := by simpa using e2
    by_cases e3 : x = 3
    · subst e3
      obtain ⟨⟨q0, q1, q2, q3⟩, _⟩ := blk4 HN4.out.hq
      have hwl : IntKind.i64.wrap (l + 1) = l + 1 := IntWalk.i64_in _ (by omega)
      have hln' : (0 : Int) < (rs.length : Int) := by omega
      go_wp2_with fail
      refine wp_region_noPanic ?_
      refine wp_region_L [12] (fun w' => w'.cell? ⟨q, 1, none⟩ = some (.int .i64 l) ∧ w'.cell? ⟨q, 3, none⟩ = some (.slice (some ⟨gg, 0, none⟩) rs.length cc)) (by kernel_rfl) (⟨q1, q3⟩) (fun hHeld => ?_)
      refine take_F (i := 0) (d := some 28) (v := ?_) (by kernel_rfl) (by kernel_rfl) rfl rfl (by kernel_rfl) (by kernel_rfl) (by kernel_rfl) (fun _ _ _ h => h) (Or.inl ⟨by rfl, ?_⟩) (by assumption) ?_
      rotate_left
      · (intro w hSw; (try dsimp only at hSw); go_simp; (try rw [if_neg (by omega)]); (try (with_reducible rfl)))
      simp only [Act.put, List.setIfInBounds_toArray, List.set_cons_zero, List.set_cons_succ]
      refine take_L [1] (i := 1) (d := some 29) (v := ?_) (by kernel_rfl) (by kernel_rfl) (by kernel_rfl) (by kernel_rfl) rfl rfl (by kernel_rfl) (by kernel_rfl) (by kernel_rfl) (fun _ _ _ h => h) (Or.inl ⟨by rfl, ?_⟩) (by assumption) ?_
      rotate_left
      · (intro w hSw; (try dsimp only at hSw); go_simp; (try rw [if_neg (by omega)]); (try (with_reducible rfl)))
      simp only [Act.put, List.setIfInBounds_toArray, List.set_cons_zero, List.set_cons_succ]
      refine take_F (i := 2) (d := some 30) (v := ?_) (by kernel_rfl) (by kernel_rfl) rfl rfl (by kernel_rfl) (by kernel_rfl) (by kernel_rfl) (fun _ _ _ h => h) (Or.inl ⟨by rfl, ?_⟩) (by assumption) ?_
      rotate_left
      · (intro w hSw; (try dsimp only at hSw); go_simp; (try rw [if_neg (by omega)]); (try (with_reducible rfl)))
      simp only [Act.put, List.setIfInBounds_toArray, List.set_cons_zero, List.set_cons_succ]
      refine take_F (i := 3) (d := some 31) (v := ?_) (by kernel_rfl) (by kernel_rfl) rfl rfl (by kernel_rfl) (by kernel_rfl) (by kernel_rfl) (fun _ _ _ h => h) (Or.inl ⟨by rfl, ?_⟩) (by assumption) ?_
      rotate_left
      · (intro w hSw; (try dsimp only at hSw); go_simp; (try rw [if_neg (by omega)]); (try (with_reducible rfl)))
      simp only [Act.put, List.setIfInBounds_toArray, List.set_cons_zero, List.set_cons_succ]
      refine take_L [4] (i := 4) (d := some 32) (v := ?_) (by kernel_rfl) (by kernel_rfl) (by kernel_rfl) (by kernel_rfl) rfl rfl (by kernel_rfl) (by kernel_rfl) (by kernel_rfl) (fun _ _ _ h => h) (Or.inl ⟨by rfl, ?_⟩) (by assumption) ?_
      rotate_left
      · (intro w hSw; (try dsimp only at hSw); go_simp; (try rw [if_neg (by omega)]); (try (with_reducible rfl)))
      simp only [Act.put, List.setIfInBounds_toArray, List.set_cons_zero, List.set_cons_succ]
      refine take_F (i := 5) (d := some 33) (v := ?_) (by kernel_rfl) (by kernel_rfl) rfl rfl (by kernel_rfl) (by kernel_rfl) (by kernel_rfl) (fun _ _ _ h => h) (Or.inl ⟨by rfl, ?_⟩) (by assumption) ?_
      rotate_left
      · (intro w hSw; (try dsimp only at hSw); go_simp; (try rw [if_neg (by omega)]); (try (with_reducible rfl)))
      simp only [Act.put, List.setIfInBounds_toArray, List.set_cons_zero, List.set_cons_succ]
      refine take_L [6] (i := 6) (d := some 34) (v := ?_) (by kernel_rfl) (by kernel_rfl) (by kernel_rfl) (by kernel_rfl) rfl rfl (by kernel_rfl) (by kernel_rfl) (by kernel_rfl) (fun _ _ _ h => h) (Or.inl ⟨by rfl, ?_⟩) (by assumption) ?_
      rotate_left
      · (intro w hSw; (try dsimp only at hSw); go_simp; (try rw [if_neg (by omega)]); (try (with_reducible rfl)))
      simp only [Act.put, List.setIfInBounds_toArray, List.set_cons_zero, List.set_cons_succ]
      refine take_F (i := 7) (d := some 35) (v := ?_) (by kernel_rfl) (by kernel_rfl) rfl rfl (by kernel_rfl) (by kernel_rfl) (by kernel_rfl) (fun _ _ _ h => h) (Or.inl ⟨by rfl, ?_⟩) (by assumption) ?_
      rotate_left
      · (intro w hSw; (try dsimp only at hSw); go_simp; (try rw [if_neg (by omega)]); (try (with_reducible rfl)))
      simp only [Act.put, List.setIfInBounds_toArray, List.set_cons_zero, List.set_cons_succ]
      have hbm := (Below.refl w4.heap.size w4).alloc (Nat.le_refl _) (.cells #[.int .i64 (-1), .int .i64 l, .int .i64 (l + 1)] 2)
      have HNa := Lib.hid (HN4.out.below hbm)
      have qa := (blk4 HNa.out.hq).1
      have HAm := Lib.hid (among_ind B g _ 3 [-1, l, l + 1] bs w4 HN4.out.src (by omega) rfl (by omega) (by omega))
      clear hbm
      refine call_L (i := 8) (d := (some 36)) rfl rfl (by kernel_rfl) (fun Kq hKq => ?_)
      go_simp
      refine hKq.out _ _ (⟨qa.2.1, qa.2.2.2⟩) (fun hHeld => ?_)
      clear hKq Kq
      (try simp only [Act.put, List.setIfInBounds_toArray, List.set_cons_zero, List.set_cons_succ])
      refine call_L (i := 9) (d := (some 37)) rfl rfl (by kernel_rfl) (fun Kq hKq => ?_)
      go_simp
      go_at_call 89
      refine HAm.out.mono ?_; rintro e w5 ⟨z, _, rfl, hs5, hg5⟩
      have HN5 := Lib.hid (HN4.out.draw hs5 hg5)
      have q5 := (blk4 HN5.out.hq).1
      have hlc := rodsC_len rs
      obtain ⟨_, o1, f1⟩ := own_put HN5.out.row 1 (by omega) undef
      have HNp := Lib.hid (HN5.out.put 1 (by omega) (.int .i64 z))
      clear hs5 hg5 qa q0 q1 q2 q3
      (try go_wp2_with fail)
      refine hKq.out _ _ (⟨q5.2.1, q5.2.2.2⟩) (fun hHeld => ?_)
      clear hKq Kq
      (try simp only [Act.put, List.setIfInBounds_toArray, List.set_cons_zero, List.set_cons_succ])
      refine take_F (i := 10) (d := some 38) (v := ?_) (by kernel_rfl) (by kernel_rfl) rfl rfl (by kernel_rfl) (by kernel_rfl) (by kernel_rfl) (fun _ _ _ h => h) (Or.inl ⟨by rfl, ?_⟩) (by assumption) ?_
      rotate_left
      · (intro w hSw; (try dsimp only at hSw); go_simp; (try rw [if_neg (by omega)]); (try (with_reducible rfl)))
      simp only [Act.put, List.setIfInBounds_toArray, List.set_cons_zero, List.set_cons_succ]
      refine take_F (i := 11) (d := some 39) (v := ?_) (by kernel_rfl) (by kernel_rfl) rfl rfl (by kernel_rfl) (by kernel_rfl) (by kernel_rfl) (fun _ _ _ h => h) (Or.inl ⟨by rfl, ?_⟩) (by assumption) ?_
      rotate_left
      · (intro w hSw; (try dsimp only at hSw); go_simp; (try rw [if_neg (by omega)]); (try (with_reducible rfl)))
      simp only [Act.put, List.setIfInBounds_toArray, List.set_cons_zero, List.set_cons_succ]
      refine late_L (i := 12) (d := none) (by kernel_rfl) rfl rfl (by kernel_rfl) (fun Kq hKq => ?_)
      go_simp
      refine hKq.out _ _ ?_
      clear hKq Kq
      refine done_L (by kernel_rfl) ?_ _
      refine NoPanic.normal ?_
      (try go_wp2_with fail)
      go_meet
      cases rs with
      | nil => exact absurd hln (by simp)
      | cons r0 rs =>
        exact ⟨u, l, w, _, (r0.1, z) :: rs, hl11, by have := HNp.out.more (k' := k + 70) (by omega); exact this⟩
    have b3 : (x == 3) = false := by simpa using e3
    by_cases e4 : x = 4
    · subst e4
      go_wp2_with fail
      refine (pick_any B g _ bs 2 w4 HN4.out.src (by omega)).mono ?_; rintro e w5 ⟨y, rfl, ⟨hy0, hy1, _⟩, hs5, hg5⟩
      have HN5 := Lib.hid (HN4.out.draw hs5 hg5)
      have hy2 := hy1 (by omega)
      obtain ⟨⟨q0, q1, q2, q3⟩, f0, f1, f2, f3⟩ := blk4 HN5.out.hq
      obtain ⟨iB, hiB, hzB, hsB, hyB⟩ := info_parts infoRod
      have hsz5 := HN5.out.gr.size
      clear hs5 hg5 HN4 hy1
      rcases (show y = 0 ∨ y = 1 by omega) with rfl | rfl
      · go_wp2_with (at_make; refine wpList_make_full _ rfl _ _ 24 rfl W.heap.size 98 iB (.agg #[.int .i64 0, .int .i64 0]) 2 Try.underlying24 hiB hzB hsB .i64 .i64 _ _ 10 rfl rfl rfl rfl (by rw [hyB]; omega) (by simp [maxLen]) hsz5 ?_; intro w6 ho6 hg6; rw [made10] at ho6; have HN6 := Lib.hid (HN5.out.anewRow ho6 hg6); have hq6 := (hg6.block _ (blk_ltN HN5.out.hq) (by simp)).trans HN5.out.hq; clear q0 q1 q2 q3 f0 f1 f2 f3 ho6 hg6; obtain ⟨⟨q0, q1, q2, q3⟩, f0, f1, f2, f3⟩ := blk4 hq6; clear hq6)
        go_meet
        exact ⟨u, l, w, _, List.replicate 10 (0, 0), by simp, HN6.out.more (by omega)⟩
      · go_wp2_with (at_make; refine wpList_make_full _ rfl _ _ 24 rfl W.heap.size 98 iB (.agg #[.int .i64 0, .int .i64 0]) 2 Try.underlying24 hiB hzB hsB .i64 .i64 _ _ 11 rfl rfl rfl rfl (by rw [hyB]; omega) (by simp [maxLen]) hsz5 ?_; intro w6 ho6 hg6; rw [made11] at ho6; have HN6 := Lib.hid (HN5.out.anewRow ho6 hg6); have hq6 := (hg6.block _ (blk_ltN HN5.out.hq) (by simp)).trans HN5.out.hq; clear q0 q1 q2 q3 f0 f1 f2 f3 ho6 hg6; obtain ⟨⟨q0, q1, q2, q3⟩, f0, f1, f2, f3⟩ := blk4 hq6; clear hq6)
        go_meet
        exact ⟨u, l, w, _, List.replicate 11 (0, 0), by simp, HN6.out.more (by omega)⟩
    have b4 : (x == 4) = false := by simpa using e4
    by_cases e5 : x = 5
    · subst e5
      have hbm := (Below.refl w4.heap.size w4).alloc (Nat.le_refl _) (.cells #[] 98)
      have ho0 := World.ownsRow_made (base := W.heap.size) (e := 98) (size := 2) w4 #[] 0 HN4.out.gr.size (by simp [maxLen]) rfl
      have HNa := Lib.hid (HN4.out.below hbm)
      have HNr := Lib.hid (HN4.out.anewRow ho0 (grown_of_below hbm none))
      obtain ⟨⟨q0, q1, q2, q3⟩, f0, f1, f2, f3⟩ := blk4 HNa.out.hq
      clear hbm ho0 HN4
      go_wp2_with fail
      go_meet
      exact ⟨u, l, w, _, [], by simp, HNr.out.more (by omega)⟩
    · have b5 : (x == 5) = false := by simpa using e5
      go_wp2_with fail
      go_meet
      exact ⟨u, l, w, _, rs, hl11, HN4.out.more (by omega)⟩
  case rest =>
    obtain ⟨u, l, w, v, rs, hl, hn⟩ := hcut
    have HN5 := Lib.hid hn
    obtain ⟨A, c, rfl⟩ := own_sl hn.row
    clear hn HN4
    obtain ⟨⟨q0, q1, q2, q3⟩, _⟩ := blk4 HN5.out.hq
    obtain ⟨⟨r0, r1, r2, r3⟩, s0, s1, s2, s3⟩ := blk4 HN5.out.hr
    have HD := Lib.hid HN5.out.done
    go_wp2_with fail
    obtain ⟨⟨k0, k1, k2, k3⟩, hsz, hgz, hoz⟩ := HD.out
    refine bodyPost_ret (v := aggAb u l w (.slice A rs.length c)) (by simp [results, Try.results64, go_sem, k0, k1, k2, k3]) rfl ?_
    exact ⟨⟨u, l, w, rs⟩, _, rfl, trivial, hl, hoz, hsz, hgz⟩
end Go.Proofs.Ytemcdmjnokpldaa
/- Abaci: draws from the code. -/
namespace Go.Proofs.Ytemcdmjnokpldaa
open Go.RowKit Go.Joins

set_option maxRecDepth 100000 in
set_option maxHeartbeats 800000 in
theorem l03DrawValue_any (B g k : Nat) (bs : List UInt8) (W : World) (hs : SrcAt W B g k bs) (hk : k < 4611686018427370000) : Calls Try.prog 65 #[.pointer (some ⟨g, 0, none⟩)] W fun e w' => ∃ x : Int, e = .returned (.int .i64 x) ∧ SrcAt w' B g (k + 10) bs ∧ W.grownBy w' (some g) := by
  have H := Lib.hid hs
  clear hs
  go_enter Try.func65, Try.ntmps65
  go_wp2_with fail
  refine (one_any B g _ bs 10 W H.out (by omega)).mono ?_; rintro e w1 ⟨y, rfl, hs1, hg1⟩
  have H1 := Lib.hid hs1
  have G1 := Lib.hid hg1
  clear hs1 hg1
  cases y with
  | true =>
    go_wp2_with fail
    refine (among_in B g _ 5 [-1, 0, 999999, 1000000000000, 1000000000001] bs w1 H1.out (by omega) rfl (by omega) (by omega)).mono ?_; rintro e w2 ⟨z, _, rfl, hs2, hg2⟩
    have H2 := Lib.hid (hs2.more (k' := k + 10) (by omega))
    have G2 := Lib.hid (grown_trans G1.out hg2)
    clear hs2 hg2
    go_wp2_with fail
    go_ret
    exact ⟨z, rfl, H2.out, G2.out⟩
  | false =>
    go_wp2_with fail
    refine (pick_any B g _ bs 1000 w1 H1.out (by omega)).mono ?_; rintro e w2 ⟨n, rfl, ⟨n0, n1, _⟩, hs2, hg2⟩
    have H2 := Lib.hid hs2
    have G2 := Lib.hid (grown_trans G1.out hg2)
    have n2 := n1 (by omega)
    clear hs2 hg2 n1
    go_wp2_with fail
    refine (pick_any B g _ bs 2 w2 H2.out (by omega)).mono ?_; rintro e w3 ⟨a, rfl, ⟨a0, a1, _⟩, hs3, hg3⟩
    have H3 := Lib.hid hs3
    have G3 := Lib.hid (grown_trans G2.out hg3)
    have a2 := a1 (by omega)
    clear hs3 hg3 a1
    go_wp2_with fail
    refine (pick_any B g _ bs 1000 w3 H3.out (by omega)).mono ?_; rintro e w4 ⟨b, rfl, ⟨b0, b1, _⟩, hs4, hg4⟩
    have H4 := Lib.hid (hs4.more (k' := k + 10) (by omega))
    have G4 := Lib.hid (grown_trans G3.out hg4)
    have b2 := b1 (by omega)
    clear hs4 hg4 b1
    have p0 : 0 ≤ a * b := Int.mul_nonneg a0 b0
    have p1 : a * b ≤ 1 * b := Int.mul_le_mul_of_nonneg_right (by omega) b0
    generalize hab : a * b = ab at *
    have hw1 : IntKind.i64.wrap ab = ab := IntWalk.i64_in _ (by omega)
    have hw2 : IntKind.i64.wrap (1 + ab) = 1 + ab := IntWalk.i64_in _ (by omega)
    have p2 : 0 ≤ n * (1 + ab) := Int.mul_nonneg n0 (by omega)
    have p3 : n * (1 + ab) ≤ 1000 * (1 + ab) := Int.mul_le_mul_of_nonneg_right (by omega) (by omega)
    have hw3 : IntKind.i64.wrap (n * (1 + ab)) = n * (1 + ab) := IntWalk.i64_in _ (by omega)
    clear p0 p1 p2 p3
    go_wp2_with fail
    go_ret
    exact ⟨_, rfl, H4.out, G4.out⟩
/-- a result is written, whose row lies in blocks behind it -/
theorem doneA {W w : World} {r base n : Nat} {v : Value} {cs : List Value} (hr : w.heap[r]? = some (.cells #[.int .i64 0, .int .i64 0, .int .i64 0, .slice none 0 0] 26 (0, 0))) (hb : Below W.heap.size W w) (lr : W.heap.size ≤ r) (ho : w.ownsRow base 98 2 v n cs) (hl : r < base) (a b c d : Value) :
    ((put4 w r a b c d).cell? ⟨r, 0, none⟩ = some a ∧ (put4 w r a b c d).cell? ⟨r, 1, none⟩ = some b ∧ (put4 w r a b c d).cell? ⟨r, 2, none⟩ = some c ∧ (put4 w r a b c d).cell? ⟨r, 3, none⟩ = some d) ∧
    Below W.heap.size W (put4 w r a b c d) ∧ Rd (put4 w r a b c d) (put4 w r a b c d).heap.size v n 2 cs := by
  have g4 := heap_setCell_same _ r 3 _ _ d (heap_setCell_same _ r 2 _ _ c (heap_setCell_same _ r 1 _ _ b (heap_setCell_same w r 0 _ _ a hr)))
  exact ⟨(blk4 g4).1, (((hb.setCell (p := ⟨r, 0, none⟩) lr a).setCell (p := ⟨r, 1, none⟩) lr b).setCell (p := ⟨r, 2, none⟩) lr c).setCell (p := ⟨r, 3, none⟩) lr d, Rd.of_own (put4_own ho hl a b c d)⟩
/-- an abacus drawn from the code -/
def RetCa (W : World) (e : Ending) (w' : World) : Prop := ∃ (a : Ab) (v : Value), e = .returned (aggAb a.u a.l a.w v) ∧ a.rods.length ≤ 11 ∧ Rd w' w'.heap.size v a.rods.length 2 (rodsC a.rods) ∧ Below W.heap.size W w'
end Go.Proofs.Ytemcdmjnokpldaa
/- Abaci: draws of two, from the code. -/
namespace Go.Proofs.Ytemcdmjnokpldaa
open Go.RowKit Go.Joins

/-- a draw from the code under way -/
structure CdA (W wx : World) (B g k : Nat) (bs : List UInt8) (q : Nat) (a b c v : Value) (n : Nat) (cs : List Value) : Prop where
  hr : wx.heap[W.heap.size]? = some (.cells #[.int .i64 0, .int .i64 0, .int .i64 0, .slice none 0 0] 26 (0, 0))
  src : SrcAt wx B g k bs
  hq : wx.heap[q]? = some (.cells #[a, b, c, v] 26 (0, 0))
  row : wx.ownsRow (g + 1) 98 2 v n cs
  rg : W.heap.size < g
  gq : g < q
  bel : Below W.heap.size W wx
theorem CdA.draw {W wx wy : World} {B g k k' q n : Nat} {bs : List UInt8} {a b c v : Value} {cs : List Value} (h : CdA W wx B g k bs q a b c v n cs) (hs : SrcAt wy B g k' bs) (hg : wx.grownBy wy (some g)) : CdA W wy B g k' bs q a b c v n cs :=
  have hq := blk_ltN h.hq
  have hr := blk_ltN h.hr
  ⟨(hg.block _ hr (fun e => by have := h.rg; injection e; omega)).trans h.hr, hs, (hg.block q hq (fun e => by have := h.gq; injection e; omega)).trans h.hq,
   h.row.kept hg (by
    cases hv : v.ownBlock with
    | none => exact .inl rfl
    | some x => exact .inr fun e => by have := (h.row.lt x hv).1; injection e; omega),
   h.rg, h.gq, h.bel.grown hg h.bel.size (fun x hx => by cases hx; exact Nat.le_of_lt h.rg)⟩
/-- an abacus and a value drawn from the code -/
def RetCs (W : World) (e : Ending) (w' : World) : Prop := ∃ (a : Ab) (v : Value) (x : Int), e = .returned (.tuple #[aggAb a.u a.l a.w v, .int .i64 x]) ∧ a.rods.length ≤ 11 ∧ Rd w' w'.heap.size v a.rods.length 2 (rodsC a.rods) ∧ Below W.heap.size W w'
end Go.Proofs.Ytemcdmjnokpldaa
/- Abaci: a draw of two abaci. -/
namespace Go.Proofs.Ytemcdmjnokpldaa
open Go.RowKit Go.Joins

/-- rods that lie in blocks behind lo -/
def RdUp (wx : World) (lo : Nat) (v : Value) (n : Nat) (cs : List Value) : Prop := ∀ wy : World, wx.heap.size ≤ wy.heap.size → (∀ p : Addr, lo < p.block → p.block < wx.heap.size → wy.cell? p = wx.cell? p) → Rd wy wy.heap.size v n 2 cs
theorem up_own {wx : World} {base lo n : Nat} {e : TypeId} {v : Value} {cs : List Value} (h : wx.ownsRow base e 2 v n cs) (hl : lo < base) : RdUp wx lo v n cs := by
  intro wy hz hk
  obtain ⟨h1, A, c, rfl, h2⟩ := Rd.of_own h
  refine ⟨h1, A, c, rfl, fun h0 => ?_⟩
  obtain ⟨b, off, rfl, hb, hcc⟩ := h2 h0
  have hbb := (h.lt b rfl).1
  exact ⟨b, off, rfl, by omega, fun i u hu => (hk ⟨b, off + i, none⟩ (by show lo < b; omega) hb).trans (hcc i u hu)⟩
theorem up_tail {wx : World} {base lo n g cap cap' : Nat} {e : TypeId} {x : Int × Int} {rs : List (Int × Int)} (h : wx.ownsRow base e 2 (.slice (some ⟨g, 0, none⟩) n cap) n (rodsC (x :: rs))) (hl : lo < base) : RdUp wx lo (.slice (some ⟨g, 2, none⟩) rs.length cap') rs.length (rodsC rs) := by
  intro wy hz hk
  refine ⟨rodsC_len rs, some ⟨g, 2, none⟩, cap', rfl, fun _ => ?_⟩
  obtain ⟨hb1, hb2⟩ := h.lt g rfl
  refine ⟨g, 2, rfl, by omega, fun i u hu => ?_⟩
  have hc := h.cells (g := g) rfl (2 + i) u (by
    have e : rodsC (x :: rs) = .int .i64 x.1 :: .int .i64 x.2 :: rodsC rs := rfl
    rw [e, show 2 + i = i + 1 + 1 by omega]
    exact hu)
  have e0 : (⟨g, 0, none⟩ : Addr).add (2 + i) = ⟨g, 2 + i, none⟩ := by unfold Addr.add; split <;> simp_all
  rw [e0] at hc
  exact (hk ⟨g, 2 + i, none⟩ (by show lo < g; omega) hb2).trans hc
theorem own_posA {w : World} {base n size : Nat} {e : TypeId} {v : Value} {cs : List Value} (h : w.ownsRow base e size v n cs) (hn : 0 < n) : ∃ g cap, v = .slice (some ⟨g, 0, none⟩) n cap ∧ n ≤ cap ∧ cap ≤ maxLen := by
  rcases h.2 with ⟨_, h0⟩ | ⟨g, cap, cur, rfl, _, _, h1, h2, _⟩
  · omega
  · exact ⟨g, cap, rfl, h1, h2⟩
/-- two abaci drawn from the code -/
def RetC2 (W : World) (e : Ending) (w' : World) : Prop := ∃ (a b : Ab) (va vb : Value), e = .returned (.tuple #[aggAb a.u a.l a.w va, aggAb b.u b.l b.w vb]) ∧ a.rods.length ≤ 11 ∧ b.rods.length ≤ 11 ∧ Rd w' w'.heap.size va a.rods.length 2 (rodsC a.rods) ∧ Rd w' w'.heap.size vb b.rods.length 2 (rodsC b.rods) ∧ Below W.heap.size W w'
/-- the two results lie in two blocks -/
structure Cd2 (W wx : World) (qa qb : Nat) (u l w w' : Int) (va vb : Value) (n n' : Nat) (cs cs' : List Value) : Prop where
  r1 : wx.heap[W.heap.size]? = some (.cells #[.int .i64 0, .int .i64 0, .int .i64 0, .slice none 0 0] 26 (0, 0))
  r2 : wx.heap[W.heap.size + 1]? = some (.cells #[.int .i64 0, .int .i64 0, .int .i64 0, .slice none 0 0] 26 (0, 0))
  ha : wx.heap[qa]? = some (.cells #[.int .i64 u, .int .i64 l, .int .i64 w, va] 26 (0, 0))
  hb : wx.heap[qb]? = some (.cells #[.int .i64 u, .int .i64 l, .int .i64 w', vb] 26 (0, 0))
  ua : RdUp wx (W.heap.size + 1) va n cs
  ub : RdUp wx (W.heap.size + 1) vb n' cs'
  la : W.heap.size + 1 < qa
  ab : qa < qb
  bel : Below W.heap.size W wx
abbrev cell4 (w : World) (r : Nat) (a b c d : Value) : Prop := w.cell? ⟨r, 0, none⟩ = some a ∧ w.cell? ⟨r, 1, none⟩ = some b ∧ w.cell? ⟨r, 2, none⟩ = some c ∧ w.cell? ⟨r, 3, none⟩ = some d
theorem put4_heap {w : World} {r q : Nat} {o : Obj} (h : w.heap[q]? = some o) (hq : q ≠ r) (a b c d : Value) : (put4 w r a b c d).heap[q]? = some o :=
  blk_setOther (blk_setOther (blk_setOther (blk_setOther h hq a) hq b) hq c) hq d
theorem put4_same {w : World} {r : Nat} {x y z u : Value} {t : TypeId} (h : w.heap[r]? = some (.cells #[x, y, z, u] t (0, 0))) (a b c d : Value) : (put4 w r a b c d).heap[r]? = some (.cells #[a, b, c, d] t (0, 0)) :=
  heap_setCell_same _ r 3 _ _ d (heap_setCell_same _ r 2 _ _ c (heap_setCell_same _ r 1 _ _ b (heap_setCell_same w r 0 _ _ a h)))
theorem put4_cell {w : World} {r : Nat} {p : Addr} (hp : p.block ≠ r) (a b c d : Value) : (put4 w r a b c d).cell? p = w.cell? p := by
  have h : ∀ (w0 : World) (i : Nat) (x : Value), (w0.setCell ⟨r, i, none⟩ x).cell? p = w0.cell? p := fun w0 i x => World.cell?_of_block (by
    show (w0.heap.modify r _)[p.block]? = _
    rw [Array.getElem?_modify, if_neg (fun e => hp e.symm)])
  exact (((h _ 3 d).trans (h _ 2 c)).trans (h _ 1 b)).trans (h _ 0 a)
theorem put4_below {B : Nat} {W w : World} (h : Below B W w) {r : Nat} (hr : B ≤ r) (a b c d : Value) : Below B W (put4 w r a b c d) :=
  (((h.setCell (p := ⟨r, 0, none⟩) hr a).setCell (p := ⟨r, 1, none⟩) hr b).setCell (p := ⟨r, 2, none⟩) hr c).setCell (p := ⟨r, 3, none⟩) hr d
/-- the first result is written -/
structure Md2 (W wx : World) (qa qb : Nat) (u l w w' : Int) (va vb : Value) (n n' : Nat) (cs cs' : List Value) : Prop where
  r1 : wx.heap[W.heap.size]? = some (.cells #[.int .i64 u, .int .i64 l, .int .i64 w, va] 26 (0, 0))
  r2 : wx.heap[W.heap.size + 1]? = some (.cells #[.int .i64 0, .int .i64 0, .int .i64 0, .slice none 0 0] 26 (0, 0))
  ha : wx.heap[qa]? = some (.cells #[.int .i64 u, .int .i64 l, .int .i64 w, va] 26 (0, 0))
  hb : wx.heap[qb]? = some (.cells #[.int .i64 u, .int .i64 l, .int .i64 w', vb] 26 (0, 0))
  ua : RdUp wx (W.heap.size + 1) va n cs
  ub : RdUp wx (W.heap.size + 1) vb n' cs'
  bel : Below W.heap.size W wx
theorem Cd2.mid {W wx : World} {qa qb : Nat} {u l w w' : Int} {va vb : Value} {n n' : Nat} {cs cs' : List Value} (h : Cd2 W wx qa qb u l w w' va vb n n' cs cs') : Md2 W (put4 wx W.heap.size (.int .i64 u) (.int .i64 l) (.int .i64 w) va) qa qb u l w w' va vb n n' cs cs' := by
  have hla := h.la
  have hab := h.ab
  have hz : (put4 wx W.heap.size (.int .i64 u) (.int .i64 l) (.int .i64 w) va).heap.size = wx.heap.size := by simp [World.setCell]
  have hu : ∀ {v : Value} {m : Nat} {ds : List Value}, RdUp wx (W.heap.size + 1) v m ds → RdUp (put4 wx W.heap.size (.int .i64 u) (.int .i64 l) (.int .i64 w) va) (W.heap.size + 1) v m ds := fun h0 wy hy hk =>
    h0 wy (by omega) (fun p hp hl => (hk p hp (by omega)).trans (put4_cell (by omega) _ _ _ _))
  exact ⟨put4_same h.r1 _ _ _ _, put4_heap h.r2 (by omega) _ _ _ _, put4_heap h.ha (by omega) _ _ _ _, put4_heap h.hb (by omega) _ _ _ _, hu h.ua, hu h.ub, put4_below h.bel (Nat.le_refl _) _ _ _ _⟩
theorem Md2.drew {W wx : World} {qa qb : Nat} {u l w w' : Int} {va vb : Value} {n n' : Nat} {cs cs' : List Value} (h : Md2 W wx qa qb u l w w' va vb n n' cs cs') : Md2 W wx.drew qa qb u l w w' va vb n n' cs cs' :=
  ⟨h.r1, h.r2, h.ha, h.hb, h.ua, h.ub, h.bel.drew⟩
theorem Md2.done {W wx : World} {qa qb : Nat} {u l w w' : Int} {va vb : Value} {n n' : Nat} {cs cs' : List Value} (h : Md2 W wx qa qb u l w w' va vb n n' cs cs') :
    cell4 (put4 wx (W.heap.size + 1) (.int .i64 u) (.int .i64 l) (.int .i64 w') vb) W.heap.size (.int .i64 u) (.int .i64 l) (.int .i64 w) va ∧
    cell4 (put4 wx (W.heap.size + 1) (.int .i64 u) (.int .i64 l) (.int .i64 w') vb) (W.heap.size + 1) (.int .i64 u) (.int .i64 l) (.int .i64 w') vb ∧
    Rd (put4 wx (W.heap.size + 1) (.int .i64 u) (.int .i64 l) (.int .i64 w') vb) (put4 wx (W.heap.size + 1) (.int .i64 u) (.int .i64 l) (.int .i64 w') vb).heap.size va n 2 cs ∧
    Rd (put4 wx (W.heap.size + 1) (.int .i64 u) (.int .i64 l) (.int .i64 w') vb) (put4 wx (W.heap.size + 1) (.int .i64 u) (.int .i64 l) (.int .i64 w') vb).heap.size vb n' 2 cs' ∧
    Below W.heap.size W (put4 wx (W.heap.size + 1) (.int .i64 u) (.int .i64 l) (.int .i64 w') vb) := by
  have hz : (put4 wx (W.heap.size + 1) (.int .i64 u) (.int .i64 l) (.int .i64 w') vb).heap.size = wx.heap.size := by simp [World.setCell]
  have hk : ∀ p : Addr, W.heap.size + 1 < p.block → p.block < wx.heap.size → (put4 wx (W.heap.size + 1) (.int .i64 u) (.int .i64 l) (.int .i64 w') vb).cell? p = wx.cell? p := fun p hp _ => put4_cell (by omega) _ _ _ _
  exact ⟨(blk4 (put4_heap h.r1 (by omega) _ _ _ _)).1, (blk4 (put4_same h.r2 _ _ _ _)).1, h.ua _ (by omega) hk, h.ub _ (by omega) hk, put4_below h.bel (by omega) _ _ _ _⟩
theorem Cd2.drew {W wx : World} {qa qb : Nat} {u l w w' : Int} {va vb : Value} {n n' : Nat} {cs cs' : List Value} (h : Cd2 W wx qa qb u l w w' va vb n n' cs cs') : Cd2 W wx.drew qa qb u l w w' va vb n n' cs cs' :=
  ⟨h.r1, h.r2, h.ha, h.hb, h.ua, h.ub, h.la, h.ab, h.bel.drew⟩
end Go.Proofs.Ytemcdmjnokpldaa
/- Beads: moved, impl. -/
namespace Go.Proofs.Ytemcdmjnokpldaa
open Go.RowKit Go.Joins

abbrev aggMv (m : Mv) : Value := .agg #[.int .i64 m.1, .int .i64 m.2.1, .int .i64 m.2.2]
abbrev cellsMv (m : Mv) : List Value := [.int .i64 m.1, .int .i64 m.2.1, .int .i64 m.2.2]
abbrev movesC (ms : List Mv) : List Value := ms.flatMap cellsMv
def mvA (a : Ab) (m : Mv) : Ab × Int := if moveC a a.rods m = 0 then (⟨a.u, a.l, a.w, moveR a.rods m⟩, 0) else (zeroAb, moveC a a.rods m)
theorem mvA_no {a : Ab} {m : Mv} {c : Int} (h : moveC a a.rods m = c) (hc : c ≠ 0) : mvA a m = (zeroAb, c) := by unfold mvA; rw [h, if_neg hc]
theorem mvA_ok {a : Ab} {m : Mv} (h : moveC a a.rods m = 0) : mvA a m = (⟨a.u, a.l, a.w, moveR a.rods m⟩, 0) := by unfold mvA; rw [h, if_pos rfl]
theorem three_at {w : World} {g : Nat} {a b c : Value} {t : TypeId} (h : w.heap[g]? = some (.cells #[a, b, c] t (0, 0))) : w.cell? ⟨g, 0, none⟩ = some a ∧ w.cell? ⟨g, 1, none⟩ = some b ∧ w.cell? ⟨g, 2, none⟩ = some c := by
  refine ⟨?_, ?_, ?_⟩ <;> (rw [cell_of_row w g _ _ _ _ h]; rfl)
/-- an abacus, a move and a result -/
structure Mv3 (W wx : World) (u l w : Int) (v : Value) (m : Mv) : Prop where
  box : wx.heap[W.heap.size]? = some (.cells #[.int .i64 u, .int .i64 l, .int .i64 w, v] 26 (0, 0))
  mv : wx.heap[W.heap.size + 1]? = some (.cells #[.int .i64 m.1, .int .i64 m.2.1, .int .i64 m.2.2] 37 (0, 0))
  res : wx.heap[W.heap.size + 2]? = some (.cells #[.int .i64 0, .int .i64 0, .int .i64 0, .slice none 0 0] 26 (0, 0))
  bel : Below W.heap.size W wx
theorem Mv3.below {W wx wy : World} {u l w : Int} {v : Value} {m : Mv} (h : Mv3 W wx u l w v m) (hb : Below wx.heap.size wx wy) : Mv3 W wy u l w v m :=
  ⟨(hb.block _ (blk_ltN h.box)).trans h.box, (hb.block _ (blk_ltN h.mv)).trans h.mv, (hb.block _ (blk_ltN h.res)).trans h.res, h.bel.trans (hb.mono h.bel.size)⟩
theorem Mv3.made (W : World) (u l w : Int) (v : Value) (m : Mv) : Mv3 W (((W.alloc (.cells #[.int .i64 u, .int .i64 l, .int .i64 w, v] 26)).alloc (.cells #[.int .i64 m.1, .int .i64 m.2.1, .int .i64 m.2.2] 37)).alloc objZ) u l w v m := by
  obtain ⟨h1, h2, h3⟩ := two_blocks W #[.int .i64 u, .int .i64 l, .int .i64 w, v] #[.int .i64 m.1, .int .i64 m.2.1, .int .i64 m.2.2] 26 37
  have hz := two_size W (.cells #[.int .i64 u, .int .i64 l, .int .i64 w, v] 26) (.cells #[.int .i64 m.1, .int .i64 m.2.1, .int .i64 m.2.2] 37)
  generalize (W.alloc (.cells #[.int .i64 u, .int .i64 l, .int .i64 w, v] 26)).alloc (.cells #[.int .i64 m.1, .int .i64 m.2.1, .int .i64 m.2.2] 37) = w2 at *
  have hb := (Below.refl w2.heap.size w2).alloc (Nat.le_refl _) objZ
  have h4 := heap_alloc_new w2 (.cells #[.int .i64 0, .int .i64 0, .int .i64 0, .slice none 0 0] 26)
  rw [hz] at h4
  exact ⟨(hb.block _ (by omega)).trans h1, (hb.block _ (by omega)).trans h2, h4, h3.trans (hb.mono h3.size)⟩
theorem Mv3.done {W wx : World} {u l w : Int} {v : Value} {m : Mv} (h : Mv3 W wx u l w v m) (a b c d : Value) : cell4 (put4 wx (W.heap.size + 2) a b c d) (W.heap.size + 2) a b c d ∧ Below W.heap.size W (put4 wx (W.heap.size + 2) a b c d) :=
  ⟨(blk4 (put4_same h.res a b c d)).1, put4_below h.bel (by omega) a b c d⟩
/-- .. and a rod in the block behind them -/
structure Mv4 (W wx : World) (u l w : Int) (v : Value) (m : Mv) (q : Nat) (a b : Value) : Prop where
  m3 : Mv3 W wx u l w v m
  rod : wx.heap[q]? = some (.cells #[a, b] 98 (0, 0))
  hq : W.heap.size + 2 < q
theorem Mv4.made {W w3 : World} {u l w : Int} {v : Value} {m : Mv} (h : Mv3 W w3 u l w v m) (a b : Value) : Mv4 W (w3.alloc (.cells #[a, b] 98)).drew u l w v m w3.heap.size a b := by
  have hba := (Below.refl w3.heap.size w3).alloc (Nat.le_refl _) (.cells #[a, b] 98)
  exact ⟨h.below hba.drew, heap_alloc_new w3 (.cells #[a, b] 98), blk_ltN h.res⟩
theorem Mv4.below {W wx wy : World} {u l w : Int} {v : Value} {m : Mv} {q : Nat} {a b : Value} (h : Mv4 W wx u l w v m q a b) (hb : Below wx.heap.size wx wy) : Mv4 W wy u l w v m q a b := ⟨h.m3.below hb, (hb.block _ (blk_ltN h.rod)).trans h.rod, h.hq⟩
theorem in_k {n : Int} {len : Nat} (h : inB n 0 ((len : Int) - 1) = true) : ∃ k : Nat, n = (k : Int) ∧ k < len := by
  have := inB_bd h
  exact ⟨n.toNat, by omega, by omega⟩
theorem getD_atB {rs : List (Int × Int)} {k : Nat} (hk : k < rs.length) : rs.getD k (0, 0) = rs[k] := by simp [List.getD, List.getElem?_eq_getElem hk]
theorem moveR_len (rs : List (Int × Int)) (m : Mv) : (moveR rs m).length = rs.length := by unfold moveR; rw [List.length_set]
set_option maxRecDepth 100000 in
set_option maxHeartbeats 6400000 in
theorem moved_any (B : Nat) (u l w : Int) (v : Value) (rs : List (Int × Int)) (m : Mv) (W : World) (h : Rd W B v rs.length 2 (rodsC rs)) (hB : B ≤ W.heap.size) (hok : okAb ⟨u, l, w, rs⟩ = true) : Calls Try.prog 79 #[aggAb u l w v, aggMv m] W (RetAb W (mvA ⟨u, l, w, rs⟩ m)) := by
  obtain ⟨hk1, _, hk3, hk4⟩ := okAb_and hok
  obtain ⟨u0, u4, l1, l12, _, _, _, _⟩ := kind_bd hk1
  dsimp only at hk3 hk4 u0 u4 l1 l12
  have HRb := Lib.hid (fun k (hk : k < rs.length) => rodOk_bd (ok_get hok hk))
  have hcs := moveC_cases ⟨u, l, w, rs⟩ rs m
  have HNo := Lib.hid (fun c h hc => mvA_no (a := ⟨u, l, w, rs⟩) (m := m) (c := c) h hc)
  have HYes := Lib.hid (fun h => mvA_ok (a := ⟨u, l, w, rs⟩) (m := m) h)
  have H := Lib.hid h
  obtain ⟨_, A, c, rfl, _⟩ := h
  obtain ⟨m0, m1, m2⟩ := m
  dsimp only at hcs HNo HYes HRb
  have HX := Lib.hid (Mv3.made W u l w (.slice A rs.length c) (m0, m1, m2))
  have HI0 := Lib.hid (fun wx => between_any m0 0 ((rs.length : Int) - 1) wx)
  have HI1 := Lib.hid (fun wx => between_any m1 (-4) 4 wx)
  have HI2 := Lib.hid (fun wx => between_any m2 (-12) 12 wx)
  have hwl : IntKind.i64.wrap ((rs.length : Int) - 1) = (rs.length : Int) - 1 := IntWalk.i64_in _ (by omega)
  clear hok hk1
  go_enter Try.func79, Try.ntmps79
  go_upto_region 1 with (fail)
  generalize ((W.alloc (.cells #[.int .i64 u, .int .i64 l, .int .i64 w, .slice A rs.length c] 26)).alloc (.cells #[.int .i64 m0, .int .i64 m1, .int .i64 m2] 37)).alloc objZ = w3 at *
  obtain ⟨c0, c1, c2, c3⟩ := four_at HX.out.box
  obtain ⟨d0, d1, d2⟩ := three_at HX.out.mv
  obtain ⟨⟨p0, p1, p2, p3⟩, f0, f1, f2, f3⟩ := blk4 HX.out.res
  dsimp only at d0 d1 d2
  have HZ := Lib.hid (HX.out.done (.int .i64 0) (.int .i64 0) (.int .i64 0) (.slice none 0 0))
  rcases hcs with ⟨g0, gc⟩ | ⟨g0, g1, gc⟩ | ⟨g0, g1, g2, gc⟩ | ⟨g0, g1, g2, g3, gc⟩ | ⟨g0, g1, g2, g3, g4, gc⟩ | ⟨g0, g1, g2, g3, g4, gc⟩
  · have HR := Lib.hid (HNo.out 2 gc (by decide))
    rw [g0] at HI0
    clear g0 gc
    go_wp2_with fail
    refine (HI0.out _).mono ?_; rintro e wa ⟨rfl, rfl⟩
    go_wp2_with fail
    obtain ⟨⟨k0, k1, k2, k3⟩, hbz⟩ := HZ.out
    refine bodyPost_ret (v := .tuple #[aggAb 0 0 0 (.slice none 0 0), .int .i64 2]) (by simp [results, Try.results79, go_sem, k0, k1, k2, k3]) rfl ?_
    rw [HR.out]; exact ⟨_, rfl, own_nilAb _ _, hbz⟩
  · have HR := Lib.hid (HNo.out 2 gc (by decide))
    rw [g0] at HI0
    rw [g1] at HI1
    clear g0 g1 gc
    go_wp2_with fail
    refine (HI0.out _).mono ?_; rintro e wa ⟨rfl, rfl⟩
    go_wp2_with fail
    refine (HI1.out _).mono ?_; rintro e wa ⟨rfl, rfl⟩
    go_wp2_with fail
    obtain ⟨⟨k0, k1, k2, k3⟩, hbz⟩ := HZ.out
    refine bodyPost_ret (v := .tuple #[aggAb 0 0 0 (.slice none 0 0), .int .i64 2]) (by simp [results, Try.results79, go_sem, k0, k1, k2, k3]) rfl ?_
    rw [HR.out]; exact ⟨_, rfl, own_nilAb _ _, hbz⟩
  · have HR := Lib.hid (HNo.out 2 gc (by decide))
    rw [g0] at HI0
    rw [g1] at HI1
    rw [g2] at HI2
    clear g0 g1 g2 gc
    go_wp2_with fail
    refine (HI0.out _).mono ?_; rintro e wa ⟨rfl, rfl⟩
    go_wp2_with fail
    refine (HI1.out _).mono ?_; rintro e wa ⟨rfl, rfl⟩
    go_wp2_with fail
    refine (HI2.out _).mono ?_; rintro e wa ⟨rfl, rfl⟩
    go_wp2_with fail
    obtain ⟨⟨k0, k1, k2, k3⟩, hbz⟩ := HZ.out
    refine bodyPost_ret (v := .tuple #[aggAb 0 0 0 (.slice none 0 0), .int .i64 2]) (by simp [results, Try.results79, go_sem, k0, k1, k2, k3]) rfl ?_
    rw [HR.out]; exact ⟨_, rfl, own_nilAb _ _, hbz⟩
  · have HR := Lib.hid (HNo.out 6 gc (by decide))
    obtain ⟨k, rfl, hkl⟩ := in_k g0
    have hkt : ((k : Int)).toNat = k := Int.toNat_natCast _
    obtain ⟨b, off, hA, hbB, hcc⟩ := rods_at (H.out.below (HX.out.bel.mono hB)) (by omega)
    subst hA
    obtain ⟨r0, r1⟩ := hcc k hkl
    have hlt' : (k : Int) < (rs.length : Int) := by omega
    have hxb := HRb.out k hkl
    have b1 := inB_bd g1
    have b2 := inB_bd g2
    rw [hkt, getD_atB hkl] at g3
    
    rw [g0] at HI0
    rw [g1] at HI1
    rw [g2] at HI2
    generalize hrk : rs[k] = x at *
    obtain ⟨x0, x1⟩ := x
    dsimp only at r0 r1 g3 hxb
    obtain ⟨y0, hy0⟩ : ∃ y, x0 + m1 = y := ⟨_, rfl⟩
    obtain ⟨y1, hy1⟩ : ∃ y, x1 + m2 = y := ⟨_, rfl⟩
    have hw1 : IntKind.i64.wrap (x0 + m1) = y0 := (IntWalk.i64_in _ (by omega)).trans hy0
    have hw2 : IntKind.i64.wrap (x1 + m2) = y1 := (IntWalk.i64_in _ (by omega)).trans hy1
    have HJ0 := Lib.hid (fun wx => between_any y0 0 u wx)
    have HJ1 := Lib.hid (fun wx => between_any y1 0 l wx)
    rw [hy0] at g3
    rw [g3] at HJ0
    
    have Hmr := Lib.hid (show moveR rs ((k : Int), m1, m2) = rs.set k (y0, y1) by unfold moveR; dsimp only; rw [hkt, getD_atB hkl, hrk]; dsimp only; rw [hy0, hy1])
    clear g0 g1 g2 g3 gc b1 b2 hcc hrk hy0 hy1 hkt HRb HYes HNo
    go_wp2_with fail
    refine (HI0.out _).mono ?_; rintro e wa ⟨rfl, rfl⟩
    go_wp2_with fail
    refine (HI1.out _).mono ?_; rintro e wa ⟨rfl, rfl⟩
    go_wp2_with fail
    refine (HI2.out _).mono ?_; rintro e wa ⟨rfl, rfl⟩
    go_upto_region 3 with (fail)
    refine wp_region_noPanic ?_
    refine wp_region_L [22] (fun w' => w'.cell? ⟨W.heap.size, 3, none⟩ = some (.slice (some ⟨b, off, none⟩) rs.length c) ∧ w'.cell? ⟨W.heap.size + 1, 0, none⟩ = some (.int .i64 (k : Int)) ∧ w'.cell? ⟨W.heap.size + 1, 1, none⟩ = some (.int .i64 m1) ∧ w'.cell? ⟨W.heap.size + 1, 2, none⟩ = some (.int .i64 m2) ∧ w'.cell? ⟨b, off + k * 2, none⟩ = some (.int .i64 x0) ∧ w'.cell? ⟨b, off + k * 2 + 1, none⟩ = some (.int .i64 x1)) (by kernel_rfl) (⟨c3, d0, d1, d2, r0, r1⟩) (fun hHeld => ?_)
    refine take_F (i := 0) (d := some 29) (v := ?_) (by kernel_rfl) (by kernel_rfl) rfl rfl (by kernel_rfl) (by kernel_rfl) (by kernel_rfl) (fun _ _ _ h => h) (Or.inl ⟨by rfl, ?_⟩) (by assumption) ?_
    rotate_left
    · (intro w hSw; (try dsimp only at hSw); go_simp; (try rw [if_neg (by omega)]); (try (with_reducible rfl)))
    simp only [Act.put, List.setIfInBounds_toArray, List.set_cons_zero, List.set_cons_succ]
    refine take_L [1] (i := 1) (d := some 30) (v := ?_) (by kernel_rfl) (by kernel_rfl) (by kernel_rfl) (by kernel_rfl) rfl rfl (by kernel_rfl) (by kernel_rfl) (by kernel_rfl) (fun _ _ _ h => h) (Or.inl ⟨by rfl, ?_⟩) (by assumption) ?_
    rotate_left
    · (intro w hSw; (try dsimp only at hSw); go_simp; (try rw [if_neg (by omega)]); (try (with_reducible rfl)))
    simp only [Act.put, List.setIfInBounds_toArray, List.set_cons_zero, List.set_cons_succ]
    refine take_F (i := 2) (d := some 31) (v := ?_) (by kernel_rfl) (by kernel_rfl) rfl rfl (by kernel_rfl) (by kernel_rfl) (by kernel_rfl) (fun _ _ _ h => h) (Or.inl ⟨by rfl, ?_⟩) (by assumption) ?_
    rotate_left
    · (intro w hSw; (try dsimp only at hSw); go_simp; (try rw [if_neg (by omega)]); (try (with_reducible rfl)))
    simp only [Act.put, List.setIfInBounds_toArray, List.set_cons_zero, List.set_cons_succ]
    refine take_L [3] (i := 3) (d := some 32) (v := ?_) (by kernel_rfl) (by kernel_rfl) (by kernel_rfl) (by kernel_rfl) rfl rfl (by kernel_rfl) (by kernel_rfl) (by kernel_rfl) (fun _ _ _ h => h) (Or.inl ⟨by rfl, ?_⟩) (by assumption) ?_
    rotate_left
    · (intro w hSw; (try dsimp only at hSw); go_simp; (try rw [if_neg (by omega)]); (try (with_reducible rfl)))
    simp only [Act.put, List.setIfInBounds_toArray, List.set_cons_zero, List.set_cons_succ]
    refine take_F (i := 4) (d := some 33) (v := ?_) (by kernel_rfl) (by kernel_rfl) rfl rfl (by kernel_rfl) (by kernel_rfl) (by kernel_rfl) (fun _ _ _ h => h) (Or.inl ⟨by rfl, ?_⟩) (by assumption) ?_
    rotate_left
    · (intro w hSw; (try dsimp only at hSw); go_simp; (try rw [if_neg (by omega)]); (try (with_reducible rfl)))
    simp only [Act.put, List.setIfInBounds_toArray, List.set_cons_zero, List.set_cons_succ]
    refine take_F (i := 5) (d := some 34) (v := ?_) (by kernel_rfl) (by kernel_rfl) rfl rfl (by kernel_rfl) (by kernel_rfl) (by kernel_rfl) (fun _ _ _ h => h) (Or.inl ⟨by rfl, ?_⟩) (by assumption) ?_
    rotate_left
    · (intro w hSw; (try dsimp only at hSw); go_simp; (try rw [if_neg (by omega)]); (try (with_reducible rfl)))
    simp only [Act.put, List.setIfInBounds_toArray, List.set_cons_zero, List.set_cons_succ]
    refine take_L [6] (i := 6) (d := some 35) (v := ?_) (by kernel_rfl) (by kernel_rfl) (by kernel_rfl) (by kernel_rfl) rfl rfl (by kernel_rfl) (by kernel_rfl) (by kernel_rfl) (fun _ _ _ h => h) (Or.inl ⟨by rfl, ?_⟩) (by assumption) ?_
    rotate_left
    · (intro w hSw; (try dsimp only at hSw); go_simp; (try rw [if_neg (by omega)]); (try (with_reducible rfl)))
    simp only [Act.put, List.setIfInBounds_toArray, List.set_cons_zero, List.set_cons_succ]
    refine take_F (i := 7) (d := some 36) (v := ?_) (by kernel_rfl) (by kernel_rfl) rfl rfl (by kernel_rfl) (by kernel_rfl) (by kernel_rfl) (fun _ _ _ h => h) (Or.inl ⟨by rfl, ?_⟩) (by assumption) ?_
    rotate_left
    · (intro w hSw; (try dsimp only at hSw); go_simp; (try rw [if_neg (by omega)]); (try (with_reducible rfl)))
    simp only [Act.put, List.setIfInBounds_toArray, List.set_cons_zero, List.set_cons_succ]
    refine take_L [8] (i := 8) (d := some 37) (v := ?_) (by kernel_rfl) (by kernel_rfl) (by kernel_rfl) (by kernel_rfl) rfl rfl (by kernel_rfl) (by kernel_rfl) (by kernel_rfl) (fun _ _ _ h => h) (Or.inl ⟨by rfl, ?_⟩) (by assumption) ?_
    rotate_left
    · (intro w hSw; (try dsimp only at hSw); go_simp; (try rw [if_neg (by omega)]); (try (with_reducible rfl)))
    simp only [Act.put, List.setIfInBounds_toArray, List.set_cons_zero, List.set_cons_succ]
    refine take_F (i := 9) (d := some 38) (v := ?_) (by kernel_rfl) (by kernel_rfl) rfl rfl (by kernel_rfl) (by kernel_rfl) (by kernel_rfl) (fun _ _ _ h => h) (Or.inl ⟨by rfl, ?_⟩) (by assumption) ?_
    rotate_left
    · (intro w hSw; (try dsimp only at hSw); go_simp; (try rw [if_neg (by omega)]); (try (with_reducible rfl)))
    simp only [Act.put, List.setIfInBounds_toArray, List.set_cons_zero, List.set_cons_succ]
    refine take_F (i := 10) (d := some 39) (v := ?_) (by kernel_rfl) (by kernel_rfl) rfl rfl (by kernel_rfl) (by kernel_rfl) (by kernel_rfl) (fun _ _ _ h => h) (Or.inl ⟨by rfl, ?_⟩) (by assumption) ?_
    rotate_left
    · (intro w hSw; (try dsimp only at hSw); go_simp; (try rw [if_neg (by omega)]); (try (with_reducible rfl)))
    simp only [Act.put, List.setIfInBounds_toArray, List.set_cons_zero, List.set_cons_succ]
    refine take_L [11] (i := 11) (d := some 40) (v := ?_) (by kernel_rfl) (by kernel_rfl) (by kernel_rfl) (by kernel_rfl) rfl rfl (by kernel_rfl) (by kernel_rfl) (by kernel_rfl) (fun _ _ _ h => h) (Or.inl ⟨by rfl, ?_⟩) (by assumption) ?_
    rotate_left
    · (intro w hSw; (try dsimp only at hSw); go_simp; (try rw [if_neg (by omega)]); (try (with_reducible rfl)))
    simp only [Act.put, List.setIfInBounds_toArray, List.set_cons_zero, List.set_cons_succ]
    refine take_F (i := 12) (d := some 41) (v := ?_) (by kernel_rfl) (by kernel_rfl) rfl rfl (by kernel_rfl) (by kernel_rfl) (by kernel_rfl) (fun _ _ _ h => h) (Or.inl ⟨by rfl, ?_⟩) (by assumption) ?_
    rotate_left
    · (intro w hSw; (try dsimp only at hSw); go_simp; (try rw [if_neg (by omega)]); (try (with_reducible rfl)))
    simp only [Act.put, List.setIfInBounds_toArray, List.set_cons_zero, List.set_cons_succ]
    refine take_L [13] (i := 13) (d := some 42) (v := ?_) (by kernel_rfl) (by kernel_rfl) (by kernel_rfl) (by kernel_rfl) rfl rfl (by kernel_rfl) (by kernel_rfl) (by kernel_rfl) (fun _ _ _ h => h) (Or.inl ⟨by rfl, ?_⟩) (by assumption) ?_
    rotate_left
    · (intro w hSw; (try dsimp only at hSw); go_simp; (try rw [if_neg (by omega)]); (try (with_reducible rfl)))
    simp only [Act.put, List.setIfInBounds_toArray, List.set_cons_zero, List.set_cons_succ]
    refine take_F (i := 14) (d := some 43) (v := ?_) (by kernel_rfl) (by kernel_rfl) rfl rfl (by kernel_rfl) (by kernel_rfl) (by kernel_rfl) (fun _ _ _ h => h) (Or.inl ⟨by rfl, ?_⟩) (by assumption) ?_
    rotate_left
    · (intro w hSw; (try dsimp only at hSw); go_simp; (try rw [if_neg (by omega)]); (try (with_reducible rfl)))
    simp only [Act.put, List.setIfInBounds_toArray, List.set_cons_zero, List.set_cons_succ]
    refine take_F (i := 15) (d := some 44) (v := ?_) (by kernel_rfl) (by kernel_rfl) rfl rfl (by kernel_rfl) (by kernel_rfl) (by kernel_rfl) (fun _ _ _ h => h) (Or.inl ⟨by rfl, ?_⟩) (by assumption) ?_
    rotate_left
    · (intro w hSw; (try dsimp only at hSw); go_simp; (try rw [if_neg (by omega)]); (try (with_reducible rfl)))
    simp only [Act.put, List.setIfInBounds_toArray, List.set_cons_zero, List.set_cons_succ]
    refine take_L [16] (i := 16) (d := some 45) (v := ?_) (by kernel_rfl) (by kernel_rfl) (by kernel_rfl) (by kernel_rfl) rfl rfl (by kernel_rfl) (by kernel_rfl) (by kernel_rfl) (fun _ _ _ h => h) (Or.inl ⟨by rfl, ?_⟩) (by assumption) ?_
    rotate_left
    · (intro w hSw; (try dsimp only at hSw); go_simp; (try rw [if_neg (by omega)]); (try (with_reducible rfl)))
    simp only [Act.put, List.setIfInBounds_toArray, List.set_cons_zero, List.set_cons_succ]
    refine take_F (i := 17) (d := some 46) (v := ?_) (by kernel_rfl) (by kernel_rfl) rfl rfl (by kernel_rfl) (by kernel_rfl) (by kernel_rfl) (fun _ _ _ h => h) (Or.inl ⟨by rfl, ?_⟩) (by assumption) ?_
    rotate_left
    · (intro w hSw; (try dsimp only at hSw); go_simp; (try rw [if_neg (by omega)]); (try (with_reducible rfl)))
    simp only [Act.put, List.setIfInBounds_toArray, List.set_cons_zero, List.set_cons_succ]
    refine take_L [18] (i := 18) (d := some 47) (v := ?_) (by kernel_rfl) (by kernel_rfl) (by kernel_rfl) (by kernel_rfl) rfl rfl (by kernel_rfl) (by kernel_rfl) (by kernel_rfl) (fun _ _ _ h => h) (Or.inl ⟨by rfl, ?_⟩) (by assumption) ?_
    rotate_left
    · (intro w hSw; (try dsimp only at hSw); go_simp; (try rw [if_neg (by omega)]); (try (with_reducible rfl)))
    simp only [Act.put, List.setIfInBounds_toArray, List.set_cons_zero, List.set_cons_succ]
    refine take_F (i := 19) (d := some 48) (v := ?_) (by kernel_rfl) (by kernel_rfl) rfl rfl (by kernel_rfl) (by kernel_rfl) (by kernel_rfl) (fun _ _ _ h => h) (Or.inl ⟨by rfl, ?_⟩) (by assumption) ?_
    rotate_left
    · (intro w hSw; (try dsimp only at hSw); go_simp; (try rw [if_neg (by omega)]); (try (with_reducible rfl)))
    simp only [Act.put, List.setIfInBounds_toArray, List.set_cons_zero, List.set_cons_succ]
    refine take_F (i := 20) (d := some 49) (v := ?_) (by kernel_rfl) (by kernel_rfl) rfl rfl (by kernel_rfl) (by kernel_rfl) (by kernel_rfl) (fun _ _ _ h => h) (Or.inl ⟨by rfl, ?_⟩) (by assumption) ?_
    rotate_left
    · (intro w hSw; (try dsimp only at hSw); go_simp; (try rw [if_neg (by omega)]); (try (with_reducible rfl)))
    simp only [Act.put, List.setIfInBounds_toArray, List.set_cons_zero, List.set_cons_succ]
    have hba := (Below.refl w3.heap.size w3).alloc (Nat.le_refl _) (.cells #[.int .i64 0, .int .i64 0] 98)
    have hM := HX.out.below hba
    have c3' := (four_at hM.box).2.2.2
    obtain ⟨e0, e1, e2⟩ := three_at hM.mv
    dsimp only at e0 e1 e2
    have r0' := (hba.cell (p := ⟨b, off + k * 2, none⟩) (by have := HX.out.bel.size; show b < _; omega)).trans r0
    have r1' := (hba.cell (p := ⟨b, off + k * 2 + 1, none⟩) (by have := HX.out.bel.size; show b < _; omega)).trans r1
    have HM4 := Lib.hid (Mv4.made HX.out (.int .i64 y0) (.int .i64 y1))
    obtain ⟨o0, o1, t0, t1⟩ := blk2 (heap_alloc_new w3 (.cells #[.int .i64 0, .int .i64 0] 98))
    clear hba hM
    refine call_L (i := 21) (d := (some 6)) rfl rfl (by kernel_rfl) (fun Kq hKq => ?_)
    go_simp
    refine hKq.out _ _ (⟨c3', e0, e1, e2, r0', r1'⟩) (fun hHeld => ?_)
    clear hKq Kq
    (try simp only [Act.put, List.setIfInBounds_toArray, List.set_cons_zero, List.set_cons_succ])
    clear c3' e0 e1 e2 r0' r1'
    refine late_L (i := 22) (d := none) (by kernel_rfl) rfl rfl (by kernel_rfl) (fun Kq hKq => ?_)
    go_simp
    refine hKq.out _ _ ?_
    clear hKq Kq
    refine done_L (by kernel_rfl) ?_ _
    refine NoPanic.normal ?_
    go_upto_region 4 with (fail)
    generalize (w3.alloc (.cells #[.int .i64 y0, .int .i64 y1] 98)).drew = w6 at *
    generalize w3.heap.size = q6 at *
    clear c0 c1 c2 c3 d0 d1 d2 r0 r1 p0 p1 p2 p3 f0 f1 f2 f3 o0 o1 t0 t1 HX HZ
    obtain ⟨c0, c1, c2, c3⟩ := four_at HM4.out.m3.box
    obtain ⟨⟨p0, p1, p2, p3⟩, f0, f1, f2, f3⟩ := blk4 HM4.out.m3.res
    obtain ⟨o0, o1, _, _⟩ := blk2 HM4.out.rod
    have HZ := Lib.hid (HM4.out.m3.done (.int .i64 0) (.int .i64 0) (.int .i64 0) (.slice none 0 0))
    go_wp2_with fail
    refine (HJ0.out _).mono ?_; rintro e wa ⟨rfl, rfl⟩
    go_wp2_with fail
    obtain ⟨⟨k0, k1, k2, k3⟩, hbz⟩ := HZ.out
    refine bodyPost_ret (v := .tuple #[aggAb 0 0 0 (.slice none 0 0), .int .i64 6]) (by simp [results, Try.results79, go_sem, k0, k1, k2, k3]) rfl ?_
    rw [HR.out]; exact ⟨_, rfl, own_nilAb _ _, hbz⟩
  · have HR := Lib.hid (HNo.out 6 gc (by decide))
    obtain ⟨k, rfl, hkl⟩ := in_k g0
    have hkt : ((k : Int)).toNat = k := Int.toNat_natCast _
    obtain ⟨b, off, hA, hbB, hcc⟩ := rods_at (H.out.below (HX.out.bel.mono hB)) (by omega)
    subst hA
    obtain ⟨r0, r1⟩ := hcc k hkl
    have hlt' : (k : Int) < (rs.length : Int) := by omega
    have hxb := HRb.out k hkl
    have b1 := inB_bd g1
    have b2 := inB_bd g2
    rw [hkt, getD_atB hkl] at g3
    rw [hkt, getD_atB hkl] at g4
    rw [g0] at HI0
    rw [g1] at HI1
    rw [g2] at HI2
    generalize hrk : rs[k] = x at *
    obtain ⟨x0, x1⟩ := x
    dsimp only at r0 r1 g3 hxb
    obtain ⟨y0, hy0⟩ : ∃ y, x0 + m1 = y := ⟨_, rfl⟩
    obtain ⟨y1, hy1⟩ : ∃ y, x1 + m2 = y := ⟨_, rfl⟩
    have hw1 : IntKind.i64.wrap (x0 + m1) = y0 := (IntWalk.i64_in _ (by omega)).trans hy0
    have hw2 : IntKind.i64.wrap (x1 + m2) = y1 := (IntWalk.i64_in _ (by omega)).trans hy1
    have HJ0 := Lib.hid (fun wx => between_any y0 0 u wx)
    have HJ1 := Lib.hid (fun wx => between_any y1 0 l wx)
    rw [hy0] at g3
    rw [g3] at HJ0
    dsimp only at g4
    rw [hy1] at g4
    rw [g4] at HJ1
    have Hmr := Lib.hid (show moveR rs ((k : Int), m1, m2) = rs.set k (y0, y1) by unfold moveR; dsimp only; rw [hkt, getD_atB hkl, hrk]; dsimp only; rw [hy0, hy1])
    clear g0 g1 g2 g3 gc b1 b2 hcc hrk hy0 hy1 hkt g4 HRb HYes HNo
    go_wp2_with fail
    refine (HI0.out _).mono ?_; rintro e wa ⟨rfl, rfl⟩
    go_wp2_with fail
    refine (HI1.out _).mono ?_; rintro e wa ⟨rfl, rfl⟩
    go_wp2_with fail
    refine (HI2.out _).mono ?_; rintro e wa ⟨rfl, rfl⟩
    go_upto_region 3 with (fail)
    refine wp_region_noPanic ?_
    refine wp_region_L [22] (fun w' => w'.cell? ⟨W.heap.size, 3, none⟩ = some (.slice (some ⟨b, off, none⟩) rs.length c) ∧ w'.cell? ⟨W.heap.size + 1, 0, none⟩ = some (.int .i64 (k : Int)) ∧ w'.cell? ⟨W.heap.size + 1, 1, none⟩ = some (.int .i64 m1) ∧ w'.cell? ⟨W.heap.size + 1, 2, none⟩ = some (.int .i64 m2) ∧ w'.cell? ⟨b, off + k * 2, none⟩ = some (.int .i64 x0) ∧ w'.cell? ⟨b, off + k * 2 + 1, none⟩ = some (.int .i64 x1)) (by kernel_rfl) (⟨c3, d0, d1, d2, r0, r1⟩) (fun hHeld => ?_)
    refine take_F (i := 0) (d := some 29) (v := ?_) (by kernel_rfl) (by kernel_rfl) rfl rfl (by kernel_rfl) (by kernel_rfl) (by kernel_rfl) (fun _ _ _ h => h) (Or.inl ⟨by rfl, ?_⟩) (by assumption) ?_
    rotate_left
    · (intro w hSw; (try dsimp only at hSw); go_simp; (try rw [if_neg (by omega)]); (try (with_reducible rfl)))
    simp only [Act.put, List.setIfInBounds_toArray, List.set_cons_zero, List.set_cons_succ]
    refine take_L [1] (i := 1) (d := some 30) (v := ?_) (by kernel_rfl) (by kernel_rfl) (by kernel_rfl) (by kernel_rfl) rfl rfl (by kernel_rfl) (by kernel_rfl) (by kernel_rfl) (fun _ _ _ h => h) (Or.inl ⟨by rfl, ?_⟩) (by assumption) ?_
    rotate_left
    · (intro w hSw; (try dsimp only at hSw); go_simp; (try rw [if_neg (by omega)]); (try (with_reducible rfl)))
    simp only [Act.put, List.setIfInBounds_toArray, List.set_cons_zero, List.set_cons_succ]
    refine take_F (i := 2) (d := some 31) (v := ?_) (by kernel_rfl) (by kernel_rfl) rfl rfl (by kernel_rfl) (by kernel_rfl) (by kernel_rfl) (fun _ _ _ h => h) (Or.inl ⟨by rfl, ?_⟩) (by assumption) ?_
    rotate_left
    · (intro w hSw; (try dsimp only at hSw); go_simp; (try rw [if_neg (by omega)]); (try (with_reducible rfl)))
    simp only [Act.put, List.setIfInBounds_toArray, List.set_cons_zero, List.set_cons_succ]
    refine take_L [3] (i := 3) (d := some 32) (v := ?_) (by kernel_rfl) (by kernel_rfl) (by kernel_rfl) (by kernel_rfl) rfl rfl (by kernel_rfl) (by kernel_rfl) (by kernel_rfl) (fun _ _ _ h => h) (Or.inl ⟨by rfl, ?_⟩) (by assumption) ?_
    rotate_left
    · (intro w hSw; (try dsimp only at hSw); go_simp; (try rw [if_neg (by omega)]); (try (with_reducible rfl)))
    simp only [Act.put, List.setIfInBounds_toArray, List.set_cons_zero, List.set_cons_succ]
    refine take_F (i := 4) (d := some 33) (v := ?_) (by kernel_rfl) (by kernel_rfl) rfl rfl (by kernel_rfl) (by kernel_rfl) (by kernel_rfl) (fun _ _ _ h => h) (Or.inl ⟨by rfl, ?_⟩) (by assumption) ?_
    rotate_left
    · (intro w hSw; (try dsimp only at hSw); go_simp; (try rw [if_neg (by omega)]); (try (with_reducible rfl)))
    simp only [Act.put, List.setIfInBounds_toArray, List.set_cons_zero, List.set_cons_succ]
    refine take_F (i := 5) (d := some 34) (v := ?_) (by kernel_rfl) (by kernel_rfl) rfl rfl (by kernel_rfl) (by kernel_rfl) (by kernel_rfl) (fun _ _ _ h => h) (Or.inl ⟨by rfl, ?_⟩) (by assumption) ?_
    rotate_left
    · (intro w hSw; (try dsimp only at hSw); go_simp; (try rw [if_neg (by omega)]); (try (with_reducible rfl)))
    simp only [Act.put, List.setIfInBounds_toArray, List.set_cons_zero, List.set_cons_succ]
    refine take_L [6] (i := 6) (d := some 35) (v := ?_) (by kernel_rfl) (by kernel_rfl) (by kernel_rfl) (by kernel_rfl) rfl rfl (by kernel_rfl) (by kernel_rfl) (by kernel_rfl) (fun _ _ _ h => h) (Or.inl ⟨by rfl, ?_⟩) (by assumption) ?_
    rotate_left
    · (intro w hSw; (try dsimp only at hSw); go_simp; (try rw [if_neg (by omega)]); (try (with_reducible rfl)))
    simp only [Act.put, List.setIfInBounds_toArray, List.set_cons_zero, List.set_cons_succ]
    refine take_F (i := 7) (d := some 36) (v := ?_) (by kernel_rfl) (by kernel_rfl) rfl rfl (by kernel_rfl) (by kernel_rfl) (by kernel_rfl) (fun _ _ _ h => h) (Or.inl ⟨by rfl, ?_⟩) (by assumption) ?_
    rotate_left
    · (intro w hSw; (try dsimp only at hSw); go_simp; (try rw [if_neg (by omega)]); (try (with_reducible rfl)))
    simp only [Act.put, List.setIfInBounds_toArray, List.set_cons_zero, List.set_cons_succ]
    refine take_L [8] (i := 8) (d := some 37) (v := ?_) (by kernel_rfl) (by kernel_rfl) (by kernel_rfl) (by kernel_rfl) rfl rfl (by kernel_rfl) (by kernel_rfl) (by kernel_rfl) (fun _ _ _ h => h) (Or.inl ⟨by rfl, ?_⟩) (by assumption) ?_
    rotate_left
    · (intro w hSw; (try dsimp only at hSw); go_simp; (try rw [if_neg (by omega)]); (try (with_reducible rfl)))
    simp only [Act.put, List.setIfInBounds_toArray, List.set_cons_zero, List.set_cons_succ]
    refine take_F (i := 9) (d := some 38) (v := ?_) (by kernel_rfl) (by kernel_rfl) rfl rfl (by kernel_rfl) (by kernel_rfl) (by kernel_rfl) (fun _ _ _ h => h) (Or.inl ⟨by rfl, ?_⟩) (by assumption) ?_
    rotate_left
    · (intro w hSw; (try dsimp only at hSw); go_simp; (try rw [if_neg (by omega)]); (try (with_reducible rfl)))
    simp only [Act.put, List.setIfInBounds_toArray, List.set_cons_zero, List.set_cons_succ]
    refine take_F (i := 10) (d := some 39) (v := ?_) (by kernel_rfl) (by kernel_rfl) rfl rfl (by kernel_rfl) (by kernel_rfl) (by kernel_rfl) (fun _ _ _ h => h) (Or.inl ⟨by rfl, ?_⟩) (by assumption) ?_
    rotate_left
    · (intro w hSw; (try dsimp only at hSw); go_simp; (try rw [if_neg (by omega)]); (try (with_reducible rfl)))
    simp only [Act.put, List.setIfInBounds_toArray, List.set_cons_zero, List.set_cons_succ]
    refine take_L [11] (i := 11) (d := some 40) (v := ?_) (by kernel_rfl) (by kernel_rfl) (by kernel_rfl) (by kernel_rfl) rfl rfl (by kernel_rfl) (by kernel_rfl) (by kernel_rfl) (fun _ _ _ h => h) (Or.inl ⟨by rfl, ?_⟩) (by assumption) ?_
    rotate_left
    · (intro w hSw; (try dsimp only at hSw); go_simp; (try rw [if_neg (by omega)]); (try (with_reducible rfl)))
    simp only [Act.put, List.setIfInBounds_toArray, List.set_cons_zero, List.set_cons_succ]
    refine take_F (i := 12) (d := some 41) (v := ?_) (by kernel_rfl) (by kernel_rfl) rfl rfl (by kernel_rfl) (by kernel_rfl) (by kernel_rfl) (fun _ _ _ h => h) (Or.inl ⟨by rfl, ?_⟩) (by assumption) ?_
    rotate_left
    · (intro w hSw; (try dsimp only at hSw); go_simp; (try rw [if_neg (by omega)]); (try (with_reducible rfl)))
    simp only [Act.put, List.setIfInBounds_toArray, List.set_cons_zero, List.set_cons_succ]
    refine take_L [13] (i := 13) (d := some 42) (v := ?_) (by kernel_rfl) (by kernel_rfl) (by kernel_rfl) (by kernel_rfl) rfl rfl (by kernel_rfl) (by kernel_rfl) (by kernel_rfl) (fun _ _ _ h => h) (Or.inl ⟨by rfl, ?_⟩) (by assumption) ?_
    rotate_left
    · (intro w hSw; (try dsimp only at hSw); go_simp; (try rw [if_neg (by omega)]); (try (with_reducible rfl)))
    simp only [Act.put, List.setIfInBounds_toArray, List.set_cons_zero, List.set_cons_succ]
    refine take_F (i := 14) (d := some 43) (v := ?_) (by kernel_rfl) (by kernel_rfl) rfl rfl (by kernel_rfl) (by kernel_rfl) (by kernel_rfl) (fun _ _ _ h => h) (Or.inl ⟨by rfl, ?_⟩) (by assumption) ?_
    rotate_left
    · (intro w hSw; (try dsimp only at hSw); go_simp; (try rw [if_neg (by omega)]); (try (with_reducible rfl)))
    simp only [Act.put, List.setIfInBounds_toArray, List.set_cons_zero, List.set_cons_succ]
    refine take_F (i := 15) (d := some 44) (v := ?_) (by kernel_rfl) (by kernel_rfl) rfl rfl (by kernel_rfl) (by kernel_rfl) (by kernel_rfl) (fun _ _ _ h => h) (Or.inl ⟨by rfl, ?_⟩) (by assumption) ?_
    rotate_left
    · (intro w hSw; (try dsimp only at hSw); go_simp; (try rw [if_neg (by omega)]); (try (with_reducible rfl)))
    simp only [Act.put, List.setIfInBounds_toArray, List.set_cons_zero, List.set_cons_succ]
    refine take_L [16] (i := 16) (d := some 45) (v := ?_) (by kernel_rfl) (by kernel_rfl) (by kernel_rfl) (by kernel_rfl) rfl rfl (by kernel_rfl) (by kernel_rfl) (by kernel_rfl) (fun _ _ _ h => h) (Or.inl ⟨by rfl, ?_⟩) (by assumption) ?_
    rotate_left
    · (intro w hSw; (try dsimp only at hSw); go_simp; (try rw [if_neg (by omega)]); (try (with_reducible rfl)))
    simp only [Act.put, List.setIfInBounds_toArray, List.set_cons_zero, List.set_cons_succ]
    refine take_F (i := 17) (d := some 46) (v := ?_) (by kernel_rfl) (by kernel_rfl) rfl rfl (by kernel_rfl) (by kernel_rfl) (by kernel_rfl) (fun _ _ _ h => h) (Or.inl ⟨by rfl, ?_⟩) (by assumption) ?_
    rotate_left
    · (intro w hSw; (try dsimp only at hSw); go_simp; (try rw [if_neg (by omega)]); (try (with_reducible rfl)))
    simp only [Act.put, List.setIfInBounds_toArray, List.set_cons_zero, List.set_cons_succ]
    refine take_L [18] (i := 18) (d := some 47) (v := ?_) (by kernel_rfl) (by kernel_rfl) (by kernel_rfl) (by kernel_rfl) rfl rfl (by kernel_rfl) (by kernel_rfl) (by kernel_rfl) (fun _ _ _ h => h) (Or.inl ⟨by rfl, ?_⟩) (by assumption) ?_
    rotate_left
    · (intro w hSw; (try dsimp only at hSw); go_simp; (try rw [if_neg (by omega)]); (try (with_reducible rfl)))
    simp only [Act.put, List.setIfInBounds_toArray, List.set_cons_zero, List.set_cons_succ]
    refine take_F (i := 19) (d := some 48) (v := ?_) (by kernel_rfl) (by kernel_rfl) rfl rfl (by kernel_rfl) (by kernel_rfl) (by kernel_rfl) (fun _ _ _ h => h) (Or.inl ⟨by rfl, ?_⟩) (by assumption) ?_
    rotate_left
    · (intro w hSw; (try dsimp only at hSw); go_simp; (try rw [if_neg (by omega)]); (try (with_reducible rfl)))
    simp only [Act.put, List.setIfInBounds_toArray, List.set_cons_zero, List.set_cons_succ]
    refine take_F (i := 20) (d := some 49) (v := ?_) (by kernel_rfl) (by kernel_rfl) rfl rfl (by kernel_rfl) (by kernel_rfl) (by kernel_rfl) (fun _ _ _ h => h) (Or.inl ⟨by rfl, ?_⟩) (by assumption) ?_
    rotate_left
    · (intro w hSw; (try dsimp only at hSw); go_simp; (try rw [if_neg (by omega)]); (try (with_reducible rfl)))
    simp only [Act.put, List.setIfInBounds_toArray, List.set_cons_zero, List.set_cons_succ]
    have hba := (Below.refl w3.heap.size w3).alloc (Nat.le_refl _) (.cells #[.int .i64 0, .int .i64 0] 98)
    have hM := HX.out.below hba
    have c3' := (four_at hM.box).2.2.2
    obtain ⟨e0, e1, e2⟩ := three_at hM.mv
    dsimp only at e0 e1 e2
    have r0' := (hba.cell (p := ⟨b, off + k * 2, none⟩) (by have := HX.out.bel.size; show b < _; omega)).trans r0
    have r1' := (hba.cell (p := ⟨b, off + k * 2 + 1, none⟩) (by have := HX.out.bel.size; show b < _; omega)).trans r1
    have HM4 := Lib.hid (Mv4.made HX.out (.int .i64 y0) (.int .i64 y1))
    obtain ⟨o0, o1, t0, t1⟩ := blk2 (heap_alloc_new w3 (.cells #[.int .i64 0, .int .i64 0] 98))
    clear hba hM
    refine call_L (i := 21) (d := (some 6)) rfl rfl (by kernel_rfl) (fun Kq hKq => ?_)
    go_simp
    refine hKq.out _ _ (⟨c3', e0, e1, e2, r0', r1'⟩) (fun hHeld => ?_)
    clear hKq Kq
    (try simp only [Act.put, List.setIfInBounds_toArray, List.set_cons_zero, List.set_cons_succ])
    clear c3' e0 e1 e2 r0' r1'
    refine late_L (i := 22) (d := none) (by kernel_rfl) rfl rfl (by kernel_rfl) (fun Kq hKq => ?_)
    go_simp
    refine hKq.out _ _ ?_
    clear hKq Kq
    refine done_L (by kernel_rfl) ?_ _
    refine NoPanic.normal ?_
    go_upto_region 4 with (fail)
    generalize (w3.alloc (.cells #[.int .i64 y0, .int .i64 y1] 98)).drew = w6 at *
    generalize w3.heap.size = q6 at *
    clear c0 c1 c2 c3 d0 d1 d2 r0 r1 p0 p1 p2 p3 f0 f1 f2 f3 o0 o1 t0 t1 HX HZ
    obtain ⟨c0, c1, c2, c3⟩ := four_at HM4.out.m3.box
    obtain ⟨⟨p0, p1, p2, p3⟩, f0, f1, f2, f3⟩ := blk4 HM4.out.m3.res
    obtain ⟨o0, o1, _, _⟩ := blk2 HM4.out.rod
    have HZ := Lib.hid (HM4.out.m3.done (.int .i64 0) (.int .i64 0) (.int .i64 0) (.slice none 0 0))
    go_wp2_with fail
    refine (HJ0.out _).mono ?_; rintro e wa ⟨rfl, rfl⟩
    go_wp2_with fail
    refine (HJ1.out _).mono ?_; rintro e wa ⟨rfl, rfl⟩
    go_wp2_with fail
    obtain ⟨⟨k0, k1, k2, k3⟩, hbz⟩ := HZ.out
    refine bodyPost_ret (v := .tuple #[aggAb 0 0 0 (.slice none 0 0), .int .i64 6]) (by simp [results, Try.results79, go_sem, k0, k1, k2, k3]) rfl ?_
    rw [HR.out]; exact ⟨_, rfl, own_nilAb _ _, hbz⟩
  · have HR := Lib.hid (HYes.out gc)
    obtain ⟨k, rfl, hkl⟩ := in_k g0
    have hkt : ((k : Int)).toNat = k := Int.toNat_natCast _
    obtain ⟨b, off, hA, hbB, hcc⟩ := rods_at (H.out.below (HX.out.bel.mono hB)) (by omega)
    subst hA
    obtain ⟨r0, r1⟩ := hcc k hkl
    have hlt' : (k : Int) < (rs.length : Int) := by omega
    have hxb := HRb.out k hkl
    have b1 := inB_bd g1
    have b2 := inB_bd g2
    rw [hkt, getD_atB hkl] at g3
    rw [hkt, getD_atB hkl] at g4
    rw [g0] at HI0
    rw [g1] at HI1
    rw [g2] at HI2
    generalize hrk : rs[k] = x at *
    obtain ⟨x0, x1⟩ := x
    dsimp only at r0 r1 g3 hxb
    obtain ⟨y0, hy0⟩ : ∃ y, x0 + m1 = y := ⟨_, rfl⟩
    obtain ⟨y1, hy1⟩ : ∃ y, x1 + m2 = y := ⟨_, rfl⟩
    have hw1 : IntKind.i64.wrap (x0 + m1) = y0 := (IntWalk.i64_in _ (by omega)).trans hy0
    have hw2 : IntKind.i64.wrap (x1 + m2) = y1 := (IntWalk.i64_in _ (by omega)).trans hy1
    have HJ0 := Lib.hid (fun wx => between_any y0 0 u wx)
    have HJ1 := Lib.hid (fun wx => between_any y1 0 l wx)
    rw [hy0] at g3
    rw [g3] at HJ0
    dsimp only at g4
    rw [hy1] at g4
    rw [g4] at HJ1
    have Hmr := Lib.hid (show moveR rs ((k : Int), m1, m2) = rs.set k (y0, y1) by unfold moveR; dsimp only; rw [hkt, getD_atB hkl, hrk]; dsimp only; rw [hy0, hy1])
    clear g0 g1 g2 g3 gc b1 b2 hcc hrk hy0 hy1 hkt g4 HRb HYes HNo
    go_wp2_with fail
    refine (HI0.out _).mono ?_; rintro e wa ⟨rfl, rfl⟩
    go_wp2_with fail
    refine (HI1.out _).mono ?_; rintro e wa ⟨rfl, rfl⟩
    go_wp2_with fail
    refine (HI2.out _).mono ?_; rintro e wa ⟨rfl, rfl⟩
    go_upto_region 3 with (fail)
    refine wp_region_noPanic ?_
    refine wp_region_L [22] (fun w' => w'.cell? ⟨W.heap.size, 3, none⟩ = some (.slice (some ⟨b, off, none⟩) rs.length c) ∧ w'.cell? ⟨W.heap.size + 1, 0, none⟩ = some (.int .i64 (k : Int)) ∧ w'.cell? ⟨W.heap.size + 1, 1, none⟩ = some (.int .i64 m1) ∧ w'.cell? ⟨W.heap.size + 1, 2, none⟩ = some (.int .i64 m2) ∧ w'.cell? ⟨b, off + k * 2, none⟩ = some (.int .i64 x0) ∧ w'.cell? ⟨b, off + k * 2 + 1, none⟩ = some (.int .i64 x1)) (by kernel_rfl) (⟨c3, d0, d1, d2, r0, r1⟩) (fun hHeld => ?_)
    refine take_F (i := 0) (d := some 29) (v := ?_) (by kernel_rfl) (by kernel_rfl) rfl rfl (by kernel_rfl) (by kernel_rfl) (by kernel_rfl) (fun _ _ _ h => h) (Or.inl ⟨by rfl, ?_⟩) (by assumption) ?_
    rotate_left
    · (intro w hSw; (try dsimp only at hSw); go_simp; (try rw [if_neg (by omega)]); (try (with_reducible rfl)))
    simp only [Act.put, List.setIfInBounds_toArray, List.set_cons_zero, List.set_cons_succ]
    refine take_L [1] (i := 1) (d := some 30) (v := ?_) (by kernel_rfl) (by kernel_rfl) (by kernel_rfl) (by kernel_rfl) rfl rfl (by kernel_rfl) (by kernel_rfl) (by kernel_rfl) (fun _ _ _ h => h) (Or.inl ⟨by rfl, ?_⟩) (by assumption) ?_
    rotate_left
    · (intro w hSw; (try dsimp only at hSw); go_simp; (try rw [if_neg (by omega)]); (try (with_reducible rfl)))
    simp only [Act.put, List.setIfInBounds_toArray, List.set_cons_zero, List.set_cons_succ]
    refine take_F (i := 2) (d := some 31) (v := ?_) (by kernel_rfl) (by kernel_rfl) rfl rfl (by kernel_rfl) (by kernel_rfl) (by kernel_rfl) (fun _ _ _ h => h) (Or.inl ⟨by rfl, ?_⟩) (by assumption) ?_
    rotate_left
    · (intro w hSw; (try dsimp only at hSw); go_simp; (try rw [if_neg (by omega)]); (try (with_reducible rfl)))
    simp only [Act.put, List.setIfInBounds_toArray, List.set_cons_zero, List.set_cons_succ]
    refine take_L [3] (i := 3) (d := some 32) (v := ?_) (by kernel_rfl) (by kernel_rfl) (by kernel_rfl) (by kernel_rfl) rfl rfl (by kernel_rfl) (by kernel_rfl) (by kernel_rfl) (fun _ _ _ h => h) (Or.inl ⟨by rfl, ?_⟩) (by assumption) ?_
    rotate_left
    · (intro w hSw; (try dsimp only at hSw); go_simp; (try rw [if_neg (by omega)]); (try (with_reducible rfl)))
    simp only [Act.put, List.setIfInBounds_toArray, List.set_cons_zero, List.set_cons_succ]
    refine take_F (i := 4) (d := some 33) (v := ?_) (by kernel_rfl) (by kernel_rfl) rfl rfl (by kernel_rfl) (by kernel_rfl) (by kernel_rfl) (fun _ _ _ h => h) (Or.inl ⟨by rfl, ?_⟩) (by assumption) ?_
    rotate_left
    · (intro w hSw; (try dsimp only at hSw); go_simp; (try rw [if_neg (by omega)]); (try (with_reducible rfl)))
    simp only [Act.put, List.setIfInBounds_toArray, List.set_cons_zero, List.set_cons_succ]
    refine take_F (i := 5) (d := some 34) (v := ?_) (by kernel_rfl) (by kernel_rfl) rfl rfl (by kernel_rfl) (by kernel_rfl) (by kernel_rfl) (fun _ _ _ h => h) (Or.inl ⟨by rfl, ?_⟩) (by assumption) ?_
    rotate_left
    · (intro w hSw; (try dsimp only at hSw); go_simp; (try rw [if_neg (by omega)]); (try (with_reducible rfl)))
    simp only [Act.put, List.setIfInBounds_toArray, List.set_cons_zero, List.set_cons_succ]
    refine take_L [6] (i := 6) (d := some 35) (v := ?_) (by kernel_rfl) (by kernel_rfl) (by kernel_rfl) (by kernel_rfl) rfl rfl (by kernel_rfl) (by kernel_rfl) (by kernel_rfl) (fun _ _ _ h => h) (Or.inl ⟨by rfl, ?_⟩) (by assumption) ?_
    rotate_left
    · (intro w hSw; (try dsimp only at hSw); go_simp; (try rw [if_neg (by omega)]); (try (with_reducible rfl)))
    simp only [Act.put, List.setIfInBounds_toArray, List.set_cons_zero, List.set_cons_succ]
    refine take_F (i := 7) (d := some 36) (v := ?_) (by kernel_rfl) (by kernel_rfl) rfl rfl (by kernel_rfl) (by kernel_rfl) (by kernel_rfl) (fun _ _ _ h => h) (Or.inl ⟨by rfl, ?_⟩) (by assumption) ?_
    rotate_left
    · (intro w hSw; (try dsimp only at hSw); go_simp; (try rw [if_neg (by omega)]); (try (with_reducible rfl)))
    simp only [Act.put, List.setIfInBounds_toArray, List.set_cons_zero, List.set_cons_succ]
    refine take_L [8] (i := 8) (d := some 37) (v := ?_) (by kernel_rfl) (by kernel_rfl) (by kernel_rfl) (by kernel_rfl) rfl rfl (by kernel_rfl) (by kernel_rfl) (by kernel_rfl) (fun _ _ _ h => h) (Or.inl ⟨by rfl, ?_⟩) (by assumption) ?_
    rotate_left
    · (intro w hSw; (try dsimp only at hSw); go_simp; (try rw [if_neg (by omega)]); (try (with_reducible rfl)))
    simp only [Act.put, List.setIfInBounds_toArray, List.set_cons_zero, List.set_cons_succ]
    refine take_F (i := 9) (d := some 38) (v := ?_) (by kernel_rfl) (by kernel_rfl) rfl rfl (by kernel_rfl) (by kernel_rfl) (by kernel_rfl) (fun _ _ _ h => h) (Or.inl ⟨by rfl, ?_⟩) (by assumption) ?_
    rotate_left
    · (intro w hSw; (try dsimp only at hSw); go_simp; (try rw [if_neg (by omega)]); (try (with_reducible rfl)))
    simp only [Act.put, List.setIfInBounds_toArray, List.set_cons_zero, List.set_cons_succ]
    refine take_F (i := 10) (d := some 39) (v := ?_) (by kernel_rfl) (by kernel_rfl) rfl rfl (by kernel_rfl) (by kernel_rfl) (by kernel_rfl) (fun _ _ _ h => h) (Or.inl ⟨by rfl, ?_⟩) (by assumption) ?_
    rotate_left
    · (intro w hSw; (try dsimp only at hSw); go_simp; (try rw [if_neg (by omega)]); (try (with_reducible rfl)))
    simp only [Act.put, List.setIfInBounds_toArray, List.set_cons_zero, List.set_cons_succ]
    refine take_L [11] (i := 11) (d := some 40) (v := ?_) (by kernel_rfl) (by kernel_rfl) (by kernel_rfl) (by kernel_rfl) rfl rfl (by kernel_rfl) (by kernel_rfl) (by kernel_rfl) (fun _ _ _ h => h) (Or.inl ⟨by rfl, ?_⟩) (by assumption) ?_
    rotate_left
    · (intro w hSw; (try dsimp only at hSw); go_simp; (try rw [if_neg (by omega)]); (try (with_reducible rfl)))
    simp only [Act.put, List.setIfInBounds_toArray, List.set_cons_zero, List.set_cons_succ]
    refine take_F (i := 12) (d := some 41) (v := ?_) (by kernel_rfl) (by kernel_rfl) rfl rfl (by kernel_rfl) (by kernel_rfl) (by kernel_rfl) (fun _ _ _ h => h) (Or.inl ⟨by rfl, ?_⟩) (by assumption) ?_
    rotate_left
    · (intro w hSw; (try dsimp only at hSw); go_simp; (try rw [if_neg (by omega)]); (try (with_reducible rfl)))
    simp only [Act.put, List.setIfInBounds_toArray, List.set_cons_zero, List.set_cons_succ]
    refine take_L [13] (i := 13) (d := some 42) (v := ?_) (by kernel_rfl) (by kernel_rfl) (by kernel_rfl) (by kernel_rfl) rfl rfl (by kernel_rfl) (by kernel_rfl) (by kernel_rfl) (fun _ _ _ h => h) (Or.inl ⟨by rfl, ?_⟩) (by assumption) ?_
    rotate_left
    · (intro w hSw; (try dsimp only at hSw); go_simp; (try rw [if_neg (by omega)]); (try (with_reducible rfl)))
    simp only [Act.put, List.setIfInBounds_toArray, List.set_cons_zero, List.set_cons_succ]
    refine take_F (i := 14) (d := some 43) (v := ?_) (by kernel_rfl) (by kernel_rfl) rfl rfl (by kernel_rfl) (by kernel_rfl) (by kernel_rfl) (fun _ _ _ h => h) (Or.inl ⟨by rfl, ?_⟩) (by assumption) ?_
    rotate_left
    · (intro w hSw; (try dsimp only at hSw); go_simp; (try rw [if_neg (by omega)]); (try (with_reducible rfl)))
    simp only [Act.put, List.setIfInBounds_toArray, List.set_cons_zero, List.set_cons_succ]
    refine take_F (i := 15) (d := some 44) (v := ?_) (by kernel_rfl) (by kernel_rfl) rfl rfl (by kernel_rfl) (by kernel_rfl) (by kernel_rfl) (fun _ _ _ h => h) (Or.inl ⟨by rfl, ?_⟩) (by assumption) ?_
    rotate_left
    · (intro w hSw; (try dsimp only at hSw); go_simp; (try rw [if_neg (by omega)]); (try (with_reducible rfl)))
    simp only [Act.put, List.setIfInBounds_toArray, List.set_cons_zero, List.set_cons_succ]
    refine take_L [16] (i := 16) (d := some 45) (v := ?_) (by kernel_rfl) (by kernel_rfl) (by kernel_rfl) (by kernel_rfl) rfl rfl (by kernel_rfl) (by kernel_rfl) (by kernel_rfl) (fun _ _ _ h => h) (Or.inl ⟨by rfl, ?_⟩) (by assumption) ?_
    rotate_left
    · (intro w hSw; (try dsimp only at hSw); go_simp; (try rw [if_neg (by omega)]); (try (with_reducible rfl)))
    simp only [Act.put, List.setIfInBounds_toArray, List.set_cons_zero, List.set_cons_succ]
    refine take_F (i := 17) (d := some 46) (v := ?_) (by kernel_rfl) (by kernel_rfl) rfl rfl (by kernel_rfl) (by kernel_rfl) (by kernel_rfl) (fun _ _ _ h => h) (Or.inl ⟨by rfl, ?_⟩) (by assumption) ?_
    rotate_left
    · (intro w hSw; (try dsimp only at hSw); go_simp; (try rw [if_neg (by omega)]); (try (with_reducible rfl)))
    simp only [Act.put, List.setIfInBounds_toArray, List.set_cons_zero, List.set_cons_succ]
    refine take_L [18] (i := 18) (d := some 47) (v := ?_) (by kernel_rfl) (by kernel_rfl) (by kernel_rfl) (by kernel_rfl) rfl rfl (by kernel_rfl) (by kernel_rfl) (by kernel_rfl) (fun _ _ _ h => h) (Or.inl ⟨by rfl, ?_⟩) (by assumption) ?_
    rotate_left
    · (intro w hSw; (try dsimp only at hSw); go_simp; (try rw [if_neg (by omega)]); (try (with_reducible rfl)))
    simp only [Act.put, List.setIfInBounds_toArray, List.set_cons_zero, List.set_cons_succ]
    refine take_F (i := 19) (d := some 48) (v := ?_) (by kernel_rfl) (by kernel_rfl) rfl rfl (by kernel_rfl) (by kernel_rfl) (by kernel_rfl) (fun _ _ _ h => h) (Or.inl ⟨by rfl, ?_⟩) (by assumption) ?_
    rotate_left
    · (intro w hSw; (try dsimp only at hSw); go_simp; (try rw [if_neg (by omega)]); (try (with_reducible rfl)))
    simp only [Act.put, List.setIfInBounds_toArray, List.set_cons_zero, List.set_cons_succ]
    refine take_F (i := 20) (d := some 49) (v := ?_) (by kernel_rfl) (by kernel_rfl) rfl rfl (by kernel_rfl) (by kernel_rfl) (by kernel_rfl) (fun _ _ _ h => h) (Or.inl ⟨by rfl, ?_⟩) (by assumption) ?_
    rotate_left
    · (intro w hSw; (try dsimp only at hSw); go_simp; (try rw [if_neg (by omega)]); (try (with_reducible rfl)))
    simp only [Act.put, List.setIfInBounds_toArray, List.set_cons_zero, List.set_cons_succ]
    have hba := (Below.refl w3.heap.size w3).alloc (Nat.le_refl _) (.cells #[.int .i64 0, .int .i64 0] 98)
    have hM := HX.out.below hba
    have c3' := (four_at hM.box).2.2.2
    obtain ⟨e0, e1, e2⟩ := three_at hM.mv
    dsimp only at e0 e1 e2
    have r0' := (hba.cell (p := ⟨b, off + k * 2, none⟩) (by have := HX.out.bel.size; show b < _; omega)).trans r0
    have r1' := (hba.cell (p := ⟨b, off + k * 2 + 1, none⟩) (by have := HX.out.bel.size; show b < _; omega)).trans r1
    have HM4 := Lib.hid (Mv4.made HX.out (.int .i64 y0) (.int .i64 y1))
    obtain ⟨o0, o1, t0, t1⟩ := blk2 (heap_alloc_new w3 (.cells #[.int .i64 0, .int .i64 0] 98))
    clear hba hM
    refine call_L (i := 21) (d := (some 6)) rfl rfl (by kernel_rfl) (fun Kq hKq => ?_)
    go_simp
    refine hKq.out _ _ (⟨c3', e0, e1, e2, r0', r1'⟩) (fun hHeld => ?_)
    clear hKq Kq
    (try simp only [Act.put, List.setIfInBounds_toArray, List.set_cons_zero, List.set_cons_succ])
    clear c3' e0 e1 e2 r0' r1'
    refine late_L (i := 22) (d := none) (by kernel_rfl) rfl rfl (by kernel_rfl) (fun Kq hKq => ?_)
    go_simp
    refine hKq.out _ _ ?_
    clear hKq Kq
    refine done_L (by kernel_rfl) ?_ _
    refine NoPanic.normal ?_
    go_upto_region 4 with (fail)
    generalize (w3.alloc (.cells #[.int .i64 y0, .int .i64 y1] 98)).drew = w6 at *
    generalize w3.heap.size = q6 at *
    clear c0 c1 c2 c3 d0 d1 d2 r0 r1 p0 p1 p2 p3 f0 f1 f2 f3 o0 o1 t0 t1 HX HZ
    obtain ⟨c0, c1, c2, c3⟩ := four_at HM4.out.m3.box
    obtain ⟨⟨p0, p1, p2, p3⟩, f0, f1, f2, f3⟩ := blk4 HM4.out.m3.res
    obtain ⟨o0, o1, _, _⟩ := blk2 HM4.out.rod
    have HZ := Lib.hid (HM4.out.m3.done (.int .i64 0) (.int .i64 0) (.int .i64 0) (.slice none 0 0))
    go_wp2_with fail
    refine (HJ0.out _).mono ?_; rintro e wa ⟨rfl, rfl⟩
    go_wp2_with fail
    refine (HJ1.out _).mono ?_; rintro e wa ⟨rfl, rfl⟩
    have HW := Lib.hid (withRods_any B rs.length u l w (.slice (some ⟨b, off, none⟩) rs.length c) (.slice (some ⟨b, off, none⟩) rs.length c) (rodsC rs) w6 (H.out.below (HM4.out.m3.bel.mono hB)) (Nat.le_trans hB HM4.out.m3.bel.size) (by omega) (by omega) (rodsC_one rs))
    go_wp2_with fail
    refine HW.out.mono ?_; rintro e w8 ⟨g, cap, rfl, ho, hb⟩
    have hlg := ho.lt g rfl
    have hl2 := blk_ltN HM4.out.m3.res
    have hbm := (Below.refl w8.heap.size w8).alloc (Nat.le_refl _) (.cells #[.int .i64 u, .int .i64 l, .int .i64 w, .slice (some ⟨g, 0, none⟩) rs.length cap] 26)
    have hM8 := (HM4.out.below hb).below hbm
    have HP := Lib.hid (show PlAt W (w8.alloc (.cells #[.int .i64 u, .int .i64 l, .int .i64 w, .slice (some ⟨g, 0, none⟩) rs.length cap] 26)) W.heap.size (W.heap.size + 2) w8.heap.size g cap rs.length u l w (.slice (some ⟨b, off, none⟩) rs.length c) rs from
      ⟨AbAt.of hM8.m3.box, hM8.m3.res, heap_alloc_new w8 _, own_below (ownsRow_le ho (by omega)) hbm, hM8.m3.bel, rfl, by omega, by omega, by omega, by omega, by omega⟩)
    have HM8 := Lib.hid hM8
    go_upto_region 7 with (fail)
    generalize w8.heap.size = q8 at *
    generalize w8.alloc (.cells #[.int .i64 u, .int .i64 l, .int .i64 w, .slice (some ⟨g, 0, none⟩) rs.length cap] 26) = w9 at *
    clear ho hb hlg hl2 hbm hM8 c0 c1 c2 c3 p0 p1 p2 p3 f0 f1 f2 f3 o0 o1 HZ HM4
    obtain ⟨q0, q1, q2, q3⟩ := (blk4 HP.out.out).1
    obtain ⟨d0, _, _⟩ := three_at HM8.out.m3.mv
    dsimp only at d0
    obtain ⟨o0, o1, _, _⟩ := blk2 HM8.out.rod
    obtain ⟨⟨z0, z1, v0, v1⟩, s0, s1⟩ := HP.out.pre hkl
    have HPs := Lib.hid (HP.out.set hkl y0 y1)
    go_upto_region 8 with (fail)
    generalize (w9.setCell ⟨g, k * 2, none⟩ (.int .i64 y0)).setCell ⟨g, k * 2 + 1, none⟩ (.int .i64 y1) = wz at *
    clear q0 q1 q2 q3 d0 o0 o1 v0 v1 s0 s1 HP HM8
    obtain ⟨q0, q1, q2, q3⟩ := (blk4 HPs.out.out).1
    obtain ⟨⟨p0, p1, p2, p3⟩, f0, f1, f2, f3⟩ := blk4 HPs.out.res
    have HD := Lib.hid (HPs.out.done (.int .i64 u) (.int .i64 l) (.int .i64 w) (.slice (some ⟨g, 0, none⟩) rs.length cap))
    go_wp2_with fail
    obtain ⟨⟨k0, k1, k2, k3⟩, hbz, hoz⟩ := HD.out
    refine bodyPost_ret (v := .tuple #[aggAb u l w (.slice (some ⟨g, 0, none⟩) rs.length cap), .int .i64 0]) (by simp [results, Try.results79, go_sem, k0, k1, k2, k3]) rfl ?_
    rw [HR.out]
    exact ⟨_, rfl, by show World.ownsRow _ _ _ _ _ (moveR rs ((k : Int), m1, m2)).length (rodsC (moveR rs ((k : Int), m1, m2))); rw [moveR_len, Hmr.out]; exact hoz, hbz⟩
end Go.Proofs.Ytemcdmjnokpldaa
