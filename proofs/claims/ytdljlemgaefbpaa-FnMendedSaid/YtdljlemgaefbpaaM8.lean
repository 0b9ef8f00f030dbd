/- Mended rows, part 8: bent pages, orders, and what the law draws. -/
import Derived.Test.YtdljlemgaefbpaaM7
namespace Go.Proofs.Ytdljlemgaefbpaa
open Go.RowKit Go.Joins
attribute [local go_sem ↓] Go.wp_at_zero Go.wp_at_succ

theorem l18DrawOrder_c (B g k : Nat) (bs : List UInt8) (w : World) (h : SrcAt w B g k bs) (hk : k < 4611686018427387000) : Calls Try.prog 126 #[.pointer (some ⟨g, 0, none⟩)] w (Drawn w B g (k + 4) bs (fun _ => True)) := by
  have H := Lib.hid h
  clear h
  go_enter Try.func126, Try.ntmps126
  go_wp2_with fail
  refine (one_any B g k bs 10 _ H.out (by omega)).mono ?_; rintro e w1 ⟨x, rfl, hs1, hg1⟩
  have Hs1 := Lib.hid hs1
  have Hg1 := Lib.hid hg1
  clear hs1 hg1
  cases x with
  | true =>
    go_wp2_with fail
    refine (among_in B g (k + 2) 4 [0, 1, 8, 9] bs w1 Hs1.out (by omega) rfl (by omega) (by omega)).mono ?_; rintro e w2 ⟨x, _, rfl, hs2, hg2⟩
    have Hf := Lib.hid (And.intro hs2 (grown_trans Hg1.out hg2))
    clear hs2 hg2
    go_wp2_with fail
    go_ret
    exact ⟨x, rfl, trivial, Hf.out.1, Hf.out.2⟩
  | false =>
    go_wp2_with fail
    refine (pick_any B g (k + 2) bs 5 _ Hs1.out (by omega)).mono ?_; rintro e w2 ⟨x, rfl, _, hs2, hg2⟩
    have Hf := Lib.hid (And.intro hs2 (grown_trans Hg1.out hg2))
    clear hs2 hg2
    go_wp2_with fail
    go_ret
    exact ⟨_, rfl, trivial, Hf.out.1, Hf.out.2⟩
theorem PgAt.put {gs : Nat} {w wr : World} {gz gp gv cv : Nat} {s : ByteArray} {a b : Int} {n : Nat} {f : Nat → Int} (h : PgAt gs w wr gz gp s a b (.slice (some ⟨gv, 0, none⟩) n cv) n f) (i : Nat) (x : Int) : PgAt gs w (wr.setCell ⟨gv, i, none⟩ (.int .i64 x)) gz gp s a b (.slice (some ⟨gv, 0, none⟩) n cv) n (Go.Proofs.Ytdljlemgaefbpaa.put f i x) := by
  have h1 := (h.row.stored i (.int .i64 x)).1
  rw [tab_set] at h1
  have n1 := pg_ne h.row h.res (by decide)
  have n2 := pg_ne h.row h.own (by decide)
  exact ⟨(Below.heap_setCell wr ⟨gv, i, none⟩ _ gz (fun e => n1 (by rw [e]; rfl))).trans h.res, (Below.heap_setCell wr ⟨gv, i, none⟩ _ gp (fun e => n2 (by rw [e]; rfl))).trans h.own, h1, grown_own h.gr h.row (grown_set wr gv i (.int .i64 x))⟩

set_option maxRecDepth 100000 in
set_option maxHeartbeats 6400000 in
theorem l18Bent_c (B gs k : Nat) (bs : List UInt8) (w : World) (h : SrcAt w B gs k bs) (hk : k < 4611686018427370000) : Calls Try.prog 125 #[.pointer (some ⟨gs, 0, none⟩)] w (DrawnP 0 61 w B gs (k + 90) bs) := by
  have hgl := h.lt
  have hA := (Below.refl w.heap.size w).alloc (Nat.le_refl _) (.cells #[.string ⟨#[]⟩, .int .i64 0, .int .i64 0, .slice none 0 0] 49)
  have HZ1 := Lib.hid (heap_alloc_new w (.cells #[.string ⟨#[]⟩, .int .i64 0, .int .i64 0, .slice none 0 0] 49))
  have Hg1 := Lib.hid (grown_of_below hA (some gs))
  have Hs1 := Lib.hid (h.below hA)
  have hlt1 : w.heap.size < (w.alloc (.cells #[.string ⟨#[]⟩, .int .i64 0, .int .i64 0, .slice none 0 0] 49)).heap.size := by simp
  clear h hA
  go_enter Try.func125, Try.ntmps125
  go_wp2_with fail
  generalize w.alloc (.cells #[.string ⟨#[]⟩, .int .i64 0, .int .i64 0, .slice none 0 0] 49) = w1 at *
  refine (l18Draw_c B gs k bs w1 Hs1.out (by omega)).mono ?_; rintro e w2 ⟨s, a, b, v, n, f, rfl, hss, hn1, hn16, ho2, hs2, hg2⟩
  obtain ⟨gv, cv, rfl, _, _⟩ := own_posC ho2 (by omega)
  have hlt2 := Nat.lt_of_lt_of_le hlt1 hg2.size
  have hA := (Below.refl w2.heap.size w2).alloc (Nat.le_refl _) (.cells #[.string s, .int .i64 a, .int .i64 b, (.slice (some ⟨gv, 0, none⟩) n cv)] 49)
  have Hp := Lib.hid (show PgAt gs w (w2.alloc (.cells #[.string s, .int .i64 a, .int .i64 b, (.slice (some ⟨gv, 0, none⟩) n cv)] 49)) w.heap.size w2.heap.size s a b (.slice (some ⟨gv, 0, none⟩) n cv) n f from
    ⟨(hA.block w.heap.size hlt2).trans ((hg2.block w.heap.size hlt1 (fun e => by injection e; omega)).trans HZ1.out), heap_alloc_new w2 _, ownsRow_le (ho2.alloc _) (Nat.le_of_lt hlt1), grown_below (grown_trans Hg1.out hg2) hA⟩)
  have Hs3 := Lib.hid (hs2.below hA)
  clear ho2 hs2 hg2 hA HZ1 Hg1 Hs1
  go_wp2_with fail
  generalize w2.alloc (.cells #[.string s, .int .i64 a, .int .i64 b, (.slice (some ⟨gv, 0, none⟩) n cv)] 49) = w3 at *
  generalize w2.heap.size = gp at *
  have hzp : w.heap.size ≠ gp := by omega
  have hpp : w.heap.size ≤ gp := by omega
  have hn61 : n ≤ 61 := by omega
  have hn1i : (0 : Int) < (n : Int) := by omega
  have hn1n : 0 < n := by omega
  refine (pick_any B gs (k + 80) bs 24 _ Hs3.out (by omega)).mono ?_; rintro e w4 ⟨x, rfl, _, hs4, hg4⟩
  have Hp4 := Lib.hid (Hp.out.pick hgl (Nat.le_refl _) hpp hg4)
  have Hs4 := Lib.hid hs4
  clear hs4 hg4 Hp Hs3
  by_cases c0 : x = 0
  · subst c0
    go_wp2_with fail
    refine (text_c B gs (k + 80 + 2) 2 [⟨#[]⟩, ⟨#[83, 113, 117, 97, 114, 101, 115]⟩] bs w4 Hs4.out (by omega) rfl (by omega) (by omega)).mono ?_; rintro e w5 ⟨s2, hsl, rfl, hs5, hg5⟩
    have hs2 : s2.size ≤ 1000 := by
      simp only [List.mem_cons, List.not_mem_nil, or_false] at hsl
      rcases hsl with rfl | rfl <;> decide
    have hp5 := Hp4.out.pick hgl (Nat.le_refl _) hpp hg5
    obtain ⟨q0, _, _, _, qz⟩ := blk4 hp5.own
    have q4 := qz 0
    have Hp6 := Lib.hid (hp5.field hpp hzp 0 (.string s2) (s' := s2) (a' := a) (b' := b) (v' := (.slice (some ⟨gv, 0, none⟩) n cv)) rfl hp5.row)
    have Hs6 := Lib.hid (hs5.grown (grown_set w5 gp 0 (.string s2)) (fun z hz => by cases hz; omega))
    clear hsl hs5 hg5 hp5 qz
    go_upto_region 15 with (fail)
    generalize w5.setCell ⟨gp, 0, none⟩ (.string s2) = w6 at *
    clear q0 q4
    obtain ⟨p0, p1, p2, p3, _⟩ := blk4 Hp6.out.own
    obtain ⟨r0, r1, r2, r3, rz⟩ := blk4 Hp6.out.res
    have y0 := rz 0
    have y1 := rz 1
    have y2 := rz 2
    have y3 := rz 3
    clear rz
    obtain ⟨W, hW, e0, e1, e2, e3, hrow, hsw, hgw⟩ := Hp6.out.done Hs6.out hgl (Nat.le_refl _)
    subst hW
    have He0 := Lib.hid e0
    have He1 := Lib.hid e1
    have He2 := Lib.hid e2
    have He3 := Lib.hid e3
    have Hfin := Lib.hid (show DrawnP 0 61 w B gs (k + 90) bs (.returned (.agg #[.string s2, .int .i64 a, .int .i64 b, (.slice (some ⟨gv, 0, none⟩) n cv)])) _ from ⟨s2, a, b, _, n, f, rfl, hs2, Nat.zero_le _, hn61, hrow, hsw.more (by omega), hgw⟩)
    clear e0 e1 e2 e3 hrow hsw hgw
    go_wp2_with fail
    exact bodyPost_ret (v := .agg #[.string s2, .int .i64 a, .int .i64 b, (.slice (some ⟨gv, 0, none⟩) n cv)]) (by simp [results, Try.results125, go_sem, He0.out, He1.out, He2.out, He3.out]) rfl Hfin.out
  · have e0 : (x == 0) = false := by simp [c0]
    by_cases c1 : x = 1
    · subst c1
      go_wp2_with fail
      refine (among_in B gs (k + 80 + 2) 5 [-1000001, -1000000, 1000000, 1000001, -9223372036854775808] bs w4 Hs4.out (by omega) rfl (by omega) (by omega)).mono ?_; rintro e w5 ⟨z, _, rfl, hs5, hg5⟩
      have hp5 := Hp4.out.pick hgl (Nat.le_refl _) hpp hg5
      obtain ⟨_, q1, q2, _, qz⟩ := blk4 hp5.own
      have q4 := qz 1
      have Hp6 := Lib.hid (hp5.field hpp hzp 1 (.int .i64 z) (s' := s) (a' := z) (b' := b) (v' := (.slice (some ⟨gv, 0, none⟩) n cv)) rfl hp5.row)
      have Hs6 := Lib.hid (hs5.grown (grown_set w5 gp 1 (.int .i64 z)) (fun z hz => by cases hz; omega))
      clear hs5 hg5 hp5 qz
      go_upto_region 15 with (fail)
      generalize w5.setCell ⟨gp, 1, none⟩ (.int .i64 z) = w6 at *
      clear q1 q2 q4
      obtain ⟨p0, p1, p2, p3, _⟩ := blk4 Hp6.out.own
      obtain ⟨r0, r1, r2, r3, rz⟩ := blk4 Hp6.out.res
      have y0 := rz 0
      have y1 := rz 1
      have y2 := rz 2
      have y3 := rz 3
      clear rz
      obtain ⟨W, hW, e0, e1, e2, e3, hrow, hsw, hgw⟩ := Hp6.out.done Hs6.out hgl (Nat.le_refl _)
      subst hW
      have He0 := Lib.hid e0
      have He1 := Lib.hid e1
      have He2 := Lib.hid e2
      have He3 := Lib.hid e3
      have Hfin := Lib.hid (show DrawnP 0 61 w B gs (k + 90) bs (.returned (.agg #[.string s, .int .i64 z, .int .i64 b, (.slice (some ⟨gv, 0, none⟩) n cv)])) _ from ⟨s, z, b, _, n, f, rfl, hss, Nat.zero_le _, hn61, hrow, hsw.more (by omega), hgw⟩)
      clear e0 e1 e2 e3 hrow hsw hgw
      go_wp2_with fail
      exact bodyPost_ret (v := .agg #[.string s, .int .i64 z, .int .i64 b, (.slice (some ⟨gv, 0, none⟩) n cv)]) (by simp [results, Try.results125, go_sem, He0.out, He1.out, He2.out, He3.out]) rfl Hfin.out
    · have e1 : (x == 1) = false := by simp [c1]
      by_cases c2 : x = 2
      · subst c2
        go_wp2_with fail
        refine (among_in B gs (k + 80 + 2) 5 [0, 1, 1000, 1001, 9223372036854775807] bs w4 Hs4.out (by omega) rfl (by omega) (by omega)).mono ?_; rintro e w5 ⟨z, _, rfl, hs5, hg5⟩
        have hp5 := Hp4.out.pick hgl (Nat.le_refl _) hpp hg5
        obtain ⟨_, q1, q2, _, qz⟩ := blk4 hp5.own
        have q4 := qz 2
        have Hp6 := Lib.hid (hp5.field hpp hzp 2 (.int .i64 z) (s' := s) (a' := a) (b' := z) (v' := (.slice (some ⟨gv, 0, none⟩) n cv)) rfl hp5.row)
        have Hs6 := Lib.hid (hs5.grown (grown_set w5 gp 2 (.int .i64 z)) (fun z hz => by cases hz; omega))
        clear hs5 hg5 hp5 qz
        go_upto_region 15 with (fail)
        generalize w5.setCell ⟨gp, 2, none⟩ (.int .i64 z) = w6 at *
        clear q1 q2 q4
        obtain ⟨p0, p1, p2, p3, _⟩ := blk4 Hp6.out.own
        obtain ⟨r0, r1, r2, r3, rz⟩ := blk4 Hp6.out.res
        have y0 := rz 0
        have y1 := rz 1
        have y2 := rz 2
        have y3 := rz 3
        clear rz
        obtain ⟨W, hW, e0, e1, e2, e3, hrow, hsw, hgw⟩ := Hp6.out.done Hs6.out hgl (Nat.le_refl _)
        subst hW
        have He0 := Lib.hid e0
        have He1 := Lib.hid e1
        have He2 := Lib.hid e2
        have He3 := Lib.hid e3
        have Hfin := Lib.hid (show DrawnP 0 61 w B gs (k + 90) bs (.returned (.agg #[.string s, .int .i64 a, .int .i64 z, (.slice (some ⟨gv, 0, none⟩) n cv)])) _ from ⟨s, a, z, _, n, f, rfl, hss, Nat.zero_le _, hn61, hrow, hsw.more (by omega), hgw⟩)
        clear e0 e1 e2 e3 hrow hsw hgw
        go_wp2_with fail
        exact bodyPost_ret (v := .agg #[.string s, .int .i64 a, .int .i64 z, (.slice (some ⟨gv, 0, none⟩) n cv)]) (by simp [results, Try.results125, go_sem, He0.out, He1.out, He2.out, He3.out]) rfl Hfin.out
      · have e2 : (x == 2) = false := by simp [c2]
        by_cases c3 : x = 3
        · subst c3
          go_wp2_with fail
          refine (pick_any B gs (k + 80 + 2) bs 2 _ Hs4.out (by omega)).mono ?_; rintro e w5 ⟨y, rfl, ⟨hy0, hy1, _⟩, hs5, hg5⟩
          have hy2 := hy1 (by omega)
          obtain ⟨N, hN⟩ : ∃ N : Nat, 60 + y = (N : Int) := ⟨(60 + y).toNat, by omega⟩
          have hyw : IntKind.i64.wrap (60 + y) = (N : Int) := by rw [IntWalk.i64_in _ (by omega)]; exact hN
          have hN2 : N ≤ 61 := by omega
          obtain ⟨wm, hm, hom, hbm⟩ := mk_ints N (by omega) w5
          have hpm := (Hp4.out.pick hgl (Nat.le_refl _) hpp hg5).pick hgl (Nat.le_refl _) hpp (grown_of_below hbm (some gs))
          have hw5 : w.heap.size ≤ w5.heap.size := Nat.le_trans Hp4.out.gr.size hg5.size
          obtain ⟨_, _, _, q3, qz⟩ := blk4 hpm.own
          have q4 := qz 3
          have Hp6 := Lib.hid (hpm.field hpp hzp 3 (.slice (some ⟨w5.heap.size, 0, none⟩) N N) (s' := s) (a' := a) (b' := b) (v' := .slice (some ⟨w5.heap.size, 0, none⟩) N N) rfl (ownsRow_le hom hw5))
          have Hs6 := Lib.hid ((hs5.below hbm).grown (grown_set wm gp 3 (.slice (some ⟨w5.heap.size, 0, none⟩) N N)) (fun z hz => by cases hz; omega))
          clear hs5 hg5 hpm hom hbm qz hy1
          go_upto_region 15 with (fail)
          generalize wm.setCell ⟨gp, 3, none⟩ (.slice (some ⟨w5.heap.size, 0, none⟩) N N) = w6 at *
          clear q3 q4
          obtain ⟨p0, p1, p2, p3, _⟩ := blk4 Hp6.out.own
          obtain ⟨r0, r1, r2, r3, rz⟩ := blk4 Hp6.out.res
          have y0 := rz 0
          have y1 := rz 1
          have y2 := rz 2
          have y3 := rz 3
          clear rz
          obtain ⟨W, hW, e0, e1, e2, e3, hrow, hsw, hgw⟩ := Hp6.out.done Hs6.out hgl (Nat.le_refl _)
          subst hW
          have He0 := Lib.hid e0
          have He1 := Lib.hid e1
          have He2 := Lib.hid e2
          have He3 := Lib.hid e3
          have Hfin := Lib.hid (show DrawnP 0 61 w B gs (k + 90) bs (.returned (.agg #[.string s, .int .i64 a, .int .i64 b, (.slice (some ⟨w5.heap.size, 0, none⟩) N N)])) _ from ⟨s, a, b, _, N, _, rfl, hss, Nat.zero_le _, hN2, hrow, hsw.more (by omega), hgw⟩)
          clear e0 e1 e2 e3 hrow hsw hgw
          go_wp2_with fail
          exact bodyPost_ret (v := .agg #[.string s, .int .i64 a, .int .i64 b, (.slice (some ⟨w5.heap.size, 0, none⟩) N N)]) (by simp [results, Try.results125, go_sem, He0.out, He1.out, He2.out, He3.out]) rfl Hfin.out
        · have e3 : (x == 3) = false := by simp [c3]
          by_cases c4 : x = 4
          · subst c4
            obtain ⟨_, _, _, q3, _⟩ := blk4 Hp4.out.own
            go_upto_region 12 with (fail)
            refine wp_region_noPanic ?_
            refine wp_region_L [6] (fun w' => w'.cell? ⟨gp, 3, none⟩ = some (.slice (some ⟨gv, 0, none⟩) n cv)) (by kernel_rfl) (q3) (fun hHeld => ?_)
            refine take_F (i := 0) (d := some 35) (v := ?_) (by kernel_rfl) (by kernel_rfl) rfl rfl (by kernel_rfl) (by kernel_rfl) (by kernel_rfl) (fun _ _ _ h => h) (Or.inl ⟨by rfl, ?_⟩) (by assumption) ?_
            rotate_left
            · (intro w hSw; (try dsimp only at hSw); go_simp; (try (with_reducible rfl)))
            simp only [Act.put, List.setIfInBounds_toArray, List.set_cons_zero, List.set_cons_succ]
            refine take_L [1] (i := 1) (d := some 36) (v := ?_) (by kernel_rfl) (by kernel_rfl) (by kernel_rfl) (by kernel_rfl) rfl rfl (by kernel_rfl) (by kernel_rfl) (by kernel_rfl) (fun _ _ _ h => h) (Or.inl ⟨by rfl, ?_⟩) (by assumption) ?_
            rotate_left
            · (intro w hSw; (try dsimp only at hSw); go_simp; (try (with_reducible rfl)))
            simp only [Act.put, List.setIfInBounds_toArray, List.set_cons_zero, List.set_cons_succ]
            refine take_F (i := 2) (d := some 37) (v := ?_) (by kernel_rfl) (by kernel_rfl) rfl rfl (by kernel_rfl) (by kernel_rfl) (by kernel_rfl) (fun _ _ _ h => h) (Or.inl ⟨by rfl, ?_⟩) (by assumption) ?_
            rotate_left
            · (intro w hSw; (try dsimp only at hSw); go_simp; (try (with_reducible rfl)))
            simp only [Act.put, List.setIfInBounds_toArray, List.set_cons_zero, List.set_cons_succ]
            refine call_L (i := 3) (d := (some 38)) rfl rfl (by kernel_rfl) (fun Kq hKq => ?_)
            go_simp
            refine hKq.out _ _ (cell_alloc (w := w4.drew) q3 _) (fun hHeld => ?_)
            clear hKq Kq
            (try simp only [Act.put, List.setIfInBounds_toArray, List.set_cons_zero, List.set_cons_succ])
            refine call_L (i := 4) (d := (some 39)) rfl rfl (by kernel_rfl) (fun Kq hKq => ?_)
            go_simp
            go_at_call 93
            refine (among_in B gs (k + 80 + 2) 4 [-1000000000001, -1000000000000, 1000000000000, 1000000000001] bs w4.drew Hs4.out.drew (by omega) rfl (by omega) (by omega)).mono ?_; rintro e w5 ⟨z, _, rfl, hs5, hg5⟩
            have hp5 := Hp4.out.pick hgl (Nat.le_refl _) hpp (grown_undrew hg5)
            obtain ⟨_, _, _, q5, _⟩ := blk4 hp5.own
            obtain ⟨u0, u1⟩ := own_cellD hp5.row 0 (by omega)
            have hgv := (hp5.row.lt gv rfl).1
            have Hp6 := Lib.hid (hp5.put 0 z)
            have Hs6 := Lib.hid (hs5.grown (grown_set w5 gv 0 (.int .i64 z)) (fun z hz => by cases hz; omega))
            clear hs5 hg5 hp5
            (try go_wp2_with fail)
            refine hKq.out _ _ (q5) (fun hHeld => ?_)
            clear hKq Kq
            (try simp only [Act.put, List.setIfInBounds_toArray, List.set_cons_zero, List.set_cons_succ])
            refine take_F (i := 5) (d := some 40) (v := ?_) (by kernel_rfl) (by kernel_rfl) rfl rfl (by kernel_rfl) (by kernel_rfl) (by kernel_rfl) (fun _ _ _ h => h) (Or.inl ⟨by rfl, ?_⟩) (by assumption) ?_
            rotate_left
            · (intro w hSw; (try dsimp only at hSw); go_simp; (try (with_reducible rfl)))
            simp only [Act.put, List.setIfInBounds_toArray, List.set_cons_zero, List.set_cons_succ]
            refine late_L (i := 6) (d := none) (by kernel_rfl) rfl rfl (by kernel_rfl) (fun Kq hKq => ?_)
            go_simp
            refine hKq.out _ _ ?_
            clear hKq Kq
            refine done_L (by kernel_rfl) ?_ _
            refine NoPanic.normal ?_
            (try go_upto_region 15 with (fail))
            generalize w5.setCell ⟨gv, 0, none⟩ (.int .i64 z) = w6 at *
            clear q3 q5 u0 u1
            obtain ⟨p0, p1, p2, p3, _⟩ := blk4 Hp6.out.own
            obtain ⟨r0, r1, r2, r3, rz⟩ := blk4 Hp6.out.res
            have y0 := rz 0
            have y1 := rz 1
            have y2 := rz 2
            have y3 := rz 3
            clear rz
            obtain ⟨W, hW, e0, e1, e2, e3, hrow, hsw, hgw⟩ := Hp6.out.done Hs6.out hgl (Nat.le_refl _)
            subst hW
            have He0 := Lib.hid e0
            have He1 := Lib.hid e1
            have He2 := Lib.hid e2
            have He3 := Lib.hid e3
            have Hfin := Lib.hid (show DrawnP 0 61 w B gs (k + 90) bs (.returned (.agg #[.string s, .int .i64 a, .int .i64 b, (.slice (some ⟨gv, 0, none⟩) n cv)])) _ from ⟨s, a, b, _, n, _, rfl, hss, Nat.zero_le _, hn61, hrow, hsw.more (by omega), hgw⟩)
            clear e0 e1 e2 e3 hrow hsw hgw
            go_wp2_with fail
            exact bodyPost_ret (v := .agg #[.string s, .int .i64 a, .int .i64 b, (.slice (some ⟨gv, 0, none⟩) n cv)]) (by simp [results, Try.results125, go_sem, He0.out, He1.out, He2.out, He3.out]) rfl Hfin.out
          · have e4 : (x == 4) = false := by simp [c4]
            by_cases c5 : x = 5
            · subst c5
              have hA := (Below.refl w4.heap.size w4).alloc (Nat.le_refl _) (.cells #[] 2)
              have hp5 := Hp4.out.pick hgl (Nat.le_refl _) hpp (grown_of_below hA (some gs))
              obtain ⟨_, _, _, q3, qz⟩ := blk4 hp5.own
              have q4 := qz 3
              have Hp6 := Lib.hid (hp5.field hpp hzp 3 (.slice (some ⟨w4.heap.size, 0, none⟩) 0 0) (s' := s) (a' := a) (b' := b) (v' := .slice (some ⟨w4.heap.size, 0, none⟩) 0 0) (n' := 0) (f' := fun _ => 0) rfl (World.ownsRow_made (base := w.heap.size) (e := 2) (size := 1) w4 #[] 0 Hp4.out.gr.size (by simp [maxLen]) rfl))
              have Hs6 := Lib.hid ((Hs4.out.below hA).grown (grown_set (w4.alloc (.cells #[] 2)) gp 3 (.slice (some ⟨w4.heap.size, 0, none⟩) 0 0)) (fun z hz => by cases hz; omega))
              clear hA hp5 qz
              go_upto_region 15 with (fail)
              generalize (w4.alloc (.cells #[] 2)).setCell ⟨gp, 3, none⟩ (.slice (some ⟨w4.heap.size, 0, none⟩) 0 0) = w6 at *
              clear q3 q4
              obtain ⟨p0, p1, p2, p3, _⟩ := blk4 Hp6.out.own
              obtain ⟨r0, r1, r2, r3, rz⟩ := blk4 Hp6.out.res
              have y0 := rz 0
              have y1 := rz 1
              have y2 := rz 2
              have y3 := rz 3
              clear rz
              obtain ⟨W, hW, e0, e1, e2, e3, hrow, hsw, hgw⟩ := Hp6.out.done Hs6.out hgl (Nat.le_refl _)
              subst hW
              have He0 := Lib.hid e0
              have He1 := Lib.hid e1
              have He2 := Lib.hid e2
              have He3 := Lib.hid e3
              have Hfin := Lib.hid (show DrawnP 0 61 w B gs (k + 90) bs (.returned (.agg #[.string s, .int .i64 a, .int .i64 b, (.slice (some ⟨w4.heap.size, 0, none⟩) 0 0)])) _ from ⟨s, a, b, _, 0, _, rfl, hss, Nat.zero_le _, (by omega), hrow, hsw.more (by omega), hgw⟩)
              clear e0 e1 e2 e3 hrow hsw hgw
              go_wp2_with fail
              exact bodyPost_ret (v := .agg #[.string s, .int .i64 a, .int .i64 b, (.slice (some ⟨w4.heap.size, 0, none⟩) 0 0)]) (by simp [results, Try.results125, go_sem, He0.out, He1.out, He2.out, He3.out]) rfl Hfin.out
            · have e5 : (x == 5) = false := by simp [c5]
              go_upto_region 15 with (fail)
              obtain ⟨p0, p1, p2, p3, _⟩ := blk4 Hp4.out.own
              obtain ⟨r0, r1, r2, r3, rz⟩ := blk4 Hp4.out.res
              have y0 := rz 0
              have y1 := rz 1
              have y2 := rz 2
              have y3 := rz 3
              clear rz
              obtain ⟨W, hW, e0, e1, e2, e3, hrow, hsw, hgw⟩ := Hp4.out.done Hs4.out hgl (Nat.le_refl _)
              subst hW
              have He0 := Lib.hid e0
              have He1 := Lib.hid e1
              have He2 := Lib.hid e2
              have He3 := Lib.hid e3
              have Hfin := Lib.hid (show DrawnP 0 61 w B gs (k + 90) bs (.returned (.agg #[.string s, .int .i64 a, .int .i64 b, (.slice (some ⟨gv, 0, none⟩) n cv)])) _ from ⟨s, a, b, _, n, f, rfl, hss, Nat.zero_le _, hn61, hrow, hsw.more (by omega), hgw⟩)
              clear e0 e1 e2 e3 hrow hsw hgw
              go_wp2_with fail
              exact bodyPost_ret (v := .agg #[.string s, .int .i64 a, .int .i64 b, (.slice (some ⟨gv, 0, none⟩) n cv)]) (by simp [results, Try.results125, go_sem, He0.out, He1.out, He2.out, He3.out]) rfl Hfin.out
end Go.Proofs.Ytdljlemgaefbpaa
