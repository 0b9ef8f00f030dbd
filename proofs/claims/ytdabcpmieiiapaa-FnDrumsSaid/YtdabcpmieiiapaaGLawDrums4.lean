/- Merged texts: Dm13, Dm15, Dm16, Dm17, Dm18. -/
import Derived.Test.YtdabcpmieiiapaaGLawDrums3
/- Drums: the draw of times (DrawDigitFor). -/
namespace Go.Proofs.Ytdabcpmieiiapaa
open Go.RowKit Go.Joins

theorem tab_snocD (n : Nat) (F : Nat → Int) (z : Int) : tab n F ++ (#[Value.int .i64 z] : Array Value).toList = tab (n + 1) (fun i => if i < n then F i else z) := by
  rw [tab_succ, if_neg (Nat.lt_irrefl n)]
  rw [tab_congr (f := F) (g := fun i => if i < n then F i else z) (fun i hi => by rw [if_pos hi])]
theorem put_at (n : Nat) (f : Nat → Int) (a : Nat) (y : Int) : (tab n f).set a (.int .i64 y) = tab n (fun x => if x = a then y else f x) := by
  refine List.ext_getElem (by simp [tab]) fun i h1 h2 => ?_
  rw [List.getElem_set]
  simp only [tab, List.getElem_map, List.getElem_range]
  by_cases h : a = i
  · simp [h]
  · rw [if_neg h, if_neg (fun e => h e.symm)]
theorem own_posD {w : World} {base n size : Nat} {e : TypeId} {v : Value} {cs : List Value} (h : w.ownsRow base e size v n cs) (hn : 0 < n) : ∃ g cap, v = .slice (some ⟨g, 0, none⟩) n cap := by
  rcases ownsRow_forms h with ⟨_, h0⟩ | ⟨g, cap, rfl⟩
  · omega
  · exact ⟨g, cap, rfl⟩
theorem own_keptD {w w' : World} {base n size g : Nat} {e : TypeId} {v : Value} {cs : List Value} (h : w.ownsRow base e size v n cs) (hg : w.grownBy w' (some g)) (hlt : g < base) : w'.ownsRow base e size v n cs :=
  h.kept hg (by
    cases hv : v.ownBlock with
    | none => exact .inl rfl
    | some x => exact .inr fun e => by have := (h.lt x hv).1; injection e; omega)
theorem grown_put4 (w : World) (r : Nat) (d : Dm) : w.grownBy (put4D w r d) (some r) := by
  have g0 : w.grownBy w (some r) := ⟨rfl, rfl, rfl, Nat.le_refl _, fun _ _ _ => rfl⟩
  exact grown_setCell (grown_setCell (grown_setCell (grown_setCell g0 (p := ⟨r, 0, none⟩) (.inl rfl) _) (p := ⟨r, 1, none⟩) (.inl rfl) _) (p := ⟨r, 2, none⟩) (.inl rfl) _) (p := ⟨r, 3, none⟩) (.inl rfl) _
theorem CdD.app {w wx wy : World} {B g k q base n sz : Nat} {bs : List UInt8} {d : Dm} {e : TypeId} {v : Value} {cs : List Value} (h : CdD w wx B g k bs q d) (hr : wx.ownsRow base e sz v n cs) (hb : q < base) (hg : wx.grownBy wy v.ownBlock) : CdD w wy B g k bs q d :=
  have hx : ∀ x, v.ownBlock = some x → base ≤ x := fun x hx => (hr.lt x hx).1
  have hrg := h.rg
  have hgq := h.gq
  ⟨(hg.block _ (blk_ltN h.hr) (fun e => by have := hx _ e.symm; omega)).trans h.hr, h.src.grown hg (fun x he => by have := hx x he; omega), (hg.block q (blk_ltN h.hq) (fun e => by have := hx _ e.symm; omega)).trans h.hq, h.rg, h.gq, h.bel.grown hg h.bel.size (fun x he => by have := hx x he; omega)⟩
theorem own_made1 (w : World) : (w.alloc (.cells #[.int .i64 1] 2)).ownsRow w.heap.size 2 1 (.slice (some ⟨w.heap.size, 0, none⟩) 1 1) 1 (tab 1 (fun _ => 1)) :=
  ⟨rfl, .inr ⟨w.heap.size, 1, #[.int .i64 1], rfl, Nat.le_refl _, heap_alloc_new _ _, Nat.le_refl _, by simp [maxLen], rfl, rfl⟩⟩
theorem done_one {w wx : World} (hr : wx.heap[w.heap.size]? = some (.cells #[.int .i64 0, .int .i64 0, .int .i64 0, .int .i64 0] 25 (0, 0))) (hb : Below w.heap.size w wx) (d : Dm) :
    DmAt ((put4D wx w.heap.size d).alloc (.cells #[.int .i64 1] 2)) w.heap.size d ∧ ((put4D wx w.heap.size d).alloc (.cells #[.int .i64 1] 2)).ownsRow w.heap.size 2 1 (.slice (some ⟨wx.heap.size, 0, none⟩) 1 1) 1 (tab 1 (fun _ => 1)) ∧
    Below w.heap.size w ((put4D wx w.heap.size d).alloc (.cells #[.int .i64 1] 2)) := by
  obtain ⟨h1, h2⟩ := doneC hr hb d
  have hsz : (put4D wx w.heap.size d).heap.size = wx.heap.size := by simp
  have hlt : w.heap.size < (put4D wx w.heap.size d).heap.size := by rw [hsz]; exact blk_ltN hr
  have hba := (Below.refl (put4D wx w.heap.size d).heap.size (put4D wx w.heap.size d)).alloc (Nat.le_refl _) (.cells #[.int .i64 1] 2)
  refine ⟨h1.below hlt hba, ⟨rfl, .inr ⟨wx.heap.size, 1, #[.int .i64 1], rfl, Nat.le_of_lt (blk_ltN hr), ?_, Nat.le_refl _, by simp [maxLen], rfl, rfl⟩⟩, h2.trans (hba.mono h2.size)⟩
  rw [← hsz]
  exact heap_alloc_new _ _
def RetDf (w : World) (e : Ending) (w' : World) : Prop := ∃ (d : Dm) (v : Value) (m : Nat) (F : Nat → Int), e = .returned (.tuple #[aggDm d, v]) ∧ w'.ownsRow w.heap.size 2 1 v m (tab m F) ∧ m ≤ 1000 ∧ Below w.heap.size w w'
set_option maxRecDepth 100000 in
set_option maxHeartbeats 12800000 in
theorem drawDF_any (B : Nat) (cv : Value) (bs : List UInt8) (w : World) (h : Rd w B cv bs.length 1 (bs.map byV)) (hB : B ≤ w.heap.size) : Calls Try.prog 18 #[cv] w (RetDf w) := by
  have hb0 := (Below.refl w.heap.size w).alloc (Nat.le_refl _) (.cells #[.int .i64 0, .int .i64 0, .int .i64 0, .int .i64 0] 25)
  have Hr0 := Lib.hid (heap_alloc_new w (.cells #[.int .i64 0, .int .i64 0, .int .i64 0, .int .i64 0] 25))
  have HB0 := Lib.hid hb0
  have HF := Lib.hid (l00From_any B cv bs (w.alloc (.cells #[.int .i64 0, .int .i64 0, .int .i64 0, .int .i64 0] 25)) (h.below (hb0.mono hB)) (Nat.le_trans hB hb0.size))
  have hz0 : w.heap.size < (w.alloc (.cells #[.int .i64 0, .int .i64 0, .int .i64 0, .int .i64 0] 25)).heap.size := by simp
  obtain ⟨_, A, c, rfl, _⟩ := h
  clear hb0
  go_enter Try.func18, Try.ntmps18
  go_wp2_with fail
  generalize w.alloc (.cells #[.int .i64 0, .int .i64 0, .int .i64 0, .int .i64 0] 25) = w1 at *
  refine HF.out.mono ?_; rintro e w2 ⟨rfl, hs2, hb2, hl2⟩
  have H2 := Lib.hid hs2
  have Hr2 := Lib.hid ((hb2.block _ hz0).trans Hr0.out)
  have HB2 := Lib.hid (HB0.out.trans (hb2.mono HB0.out.size))
  clear hs2 hb2 HF Hr0 HB0
  go_wp2_with fail
  refine (l05Digit_any B _ _ bs w2 H2.out (by omega)).mono ?_; rintro e w3 ⟨⟨kk, b, t, f⟩, x, rfl, hs3, hg3⟩
  have hb3 := HB2.out.grown hg3 HB2.out.size (fun x hx => by cases hx; exact Nat.le_of_lt hz0)
  have hr3 := (hg3.block _ (blk_ltN Hr2.out) (fun e => by injection e; omega)).trans Hr2.out
  have hba := (Below.refl w3.heap.size w3).alloc (Nat.le_refl _) (objDm ⟨kk, b, t, f⟩)
  have hgz := hg3.size
  have HN := Lib.hid (show CdD w (w3.alloc (objDm ⟨kk, b, t, f⟩)) B w1.heap.size _ bs w3.heap.size ⟨kk, b, t, f⟩ from ⟨(hba.block _ (blk_ltN hr3)).trans hr3, hs3.below hba, heap_alloc_new w3 _, hz0, by omega, hb3.trans (hba.mono hb3.size)⟩)
  clear hs3 hg3 hb3 hr3 hba H2 Hr2 HB2
  go_upto_region 3 with (fail)
  generalize w3.heap.size = q at *
  generalize w3.alloc (.cells #[.int .i64 kk, .int .i64 b, .int .i64 t, .int .i64 f] 25) = w4 at *
  clear hl2 hgz
  obtain ⟨⟨p0, p1, p2, p3⟩, _⟩ := blk4 HN.out.hq
  dsimp only at p0 p1 p2 p3
  have HC := Lib.hid (l05Code_any q ⟨kk, b, t, f⟩ x w4 (DmAt.of HN.out.hq))
  have hqw := blk_ltN HN.out.hq
  go_wp2_with fail
  refine HC.out.mono ?_; rintro e w5 ⟨rfl, n5, hw5⟩
  have HN5 := Lib.hid (HN.out.below (show Below w4.heap.size w4 w5 by rw [hw5]; exact below_drewN (Below.refl _ _) n5))
  clear hw5 HN HC p0 p1 p2 p3
  by_cases h0 : codeD ⟨kk, b, t, f⟩ x = 0
  · obtain ⟨hok, n, rfl, hn⟩ := code_0 h0
    rw [h0]
    have hb16 := (okDm_bd hok).2.2.1
    have hb2 := (okDm_bd hok).2.2.2.2.1
    have hbd := Lib.hid (fun j hj => timeD_bd (j := j) hok hn hj)
    have HT := Lib.hid (l05Times_any q ⟨kk, b, t, f⟩ n w5 (DmAt.of HN5.out.hq) (blk_ltN HN5.out.hq) hok hn)
    unfold RetF at HT
    generalize timeD ⟨kk, b, t, f⟩ n = T at *
    dsimp only at hn hb16 hb2 hbd
    have hq5 := blk_ltN HN5.out.hq
    clear h0 hok
    go_wp2_with fail
    refine HT.out.mono ?_; rintro e w7 ⟨v7, rfl, ho7, hb7⟩
    have hbz5 := hb7.size
    have HN7 := Lib.hid (HN5.out.below hb7)
    have HR7 := Lib.hid ho7
    clear hb7 HT HN5
    by_cases hn0 : n = 0
    · obtain ⟨A7, c7, rfl⟩ := own_sl ho7
      have hn0' : ¬ (0 : Int) < (n : Int) := by omega
      clear ho7
      subst hn0
      go_wp2_with fail
      refine (one_any B _ _ bs 8 w7 HN7.out.src (by omega)).mono ?_; rintro e w20 ⟨u2, rfl, hs20, hg20⟩
      have HN20 := Lib.hid (HN7.out.draw hs20 hg20)
      have HR20 := Lib.hid (own_keptD HR7.out hg20 (by have := HN20.out.gq; omega))
      have hbz20 : w5.heap.size ≤ w20.heap.size := by have := hg20.size; omega
      clear hs20 hg20 HN7 HR7
      cases u2 with
      | false =>
        obtain ⟨⟨p0, p1, p2, p3⟩, _⟩ := blk4 HN20.out.hq
        dsimp only at p0 p1 p2 p3
        obtain ⟨⟨r0, r1, r2, r3⟩, s0, s1, s2, s3⟩ := blk4 HN20.out.hr
        have HD := Lib.hid (HN20.out.done ⟨kk, b, t, f⟩)
        have hrq : w.heap.size < w5.heap.size := by have := HN20.out.rg; have := HN20.out.gq; omega
        have HO := Lib.hid (ownsRow_le (own_keptD HR20.out (grown_put4 _ w.heap.size ⟨kk, b, t, f⟩) hrq) (Nat.le_of_lt hrq))
        go_wp2_with fail
        obtain ⟨⟨k0, k1, k2, k3⟩, hbz⟩ := HD.out
        dsimp only at k0 k1 k2 k3
        refine bodyPost_ret (v := .tuple #[aggDm ⟨kk, b, t, f⟩, .slice A7 0 c7]) (by simp [results, Try.results18, go_sem, k0, k1, k2, k3]) rfl ?_
        exact ⟨⟨kk, b, t, f⟩, _, 0, T, rfl, HO.out, by omega, hbz⟩
      | true =>
        go_wp2_with fail
        refine (pick_any B _ _ bs 30 w20 HN20.out.src (by omega)).mono ?_; rintro e w21 ⟨z2, rfl, _, hs21, hg21⟩
        have HN21 := Lib.hid (HN20.out.draw hs21 hg21)
        have HR21 := Lib.hid (own_keptD HR20.out hg21 (by have := HN21.out.gq; omega))
        have hz22 : w5.heap.size ≤ w21.heap.size := by have := hg21.size; omega
        clear hs21 hg21 HN20 HR20
        go_upto_region 10 with (at_builtin; refine wpList_apd 35 2 _ 1 8 Try.underlying35 infoD rfl (by omega) _ _ rfl rfl w5.heap.size _ (0) _ rfl HR21.out #[.int .i64 z2] 1 1 rfl rfl (by simp [Value.oneCell']) (by first | (simp [maxLen]; done) | (simp [maxLen]; omega)) (by omega) hz22 ?_; intro v23 w23 hown23 hg23; have HN23 := Lib.hid (CdD.app (HN21.out) HR21.out (by omega) hg23); rw [tab_snocD] at hown23; have HR23 := Lib.hid hown23; obtain ⟨A23, c23, rfl⟩ := own_sl hown23; clear hown23 hg23 HN21 HR21)
        obtain ⟨⟨p0, p1, p2, p3⟩, _⟩ := blk4 HN23.out.hq
        dsimp only at p0 p1 p2 p3
        obtain ⟨⟨r0, r1, r2, r3⟩, s0, s1, s2, s3⟩ := blk4 HN23.out.hr
        have HD := Lib.hid (HN23.out.done ⟨kk, b, t, f⟩)
        have hrq : w.heap.size < w5.heap.size := by have := HN23.out.rg; have := HN23.out.gq; omega
        have HO := Lib.hid (ownsRow_le (own_keptD HR23.out (grown_put4 _ w.heap.size ⟨kk, b, t, f⟩) hrq) (Nat.le_of_lt hrq))
        go_wp2_with fail
        obtain ⟨⟨k0, k1, k2, k3⟩, hbz⟩ := HD.out
        dsimp only at k0 k1 k2 k3
        refine bodyPost_ret (v := .tuple #[aggDm ⟨kk, b, t, f⟩, .slice A23 (0 + 1) c23]) (by simp [results, Try.results18, go_sem, k0, k1, k2, k3]) rfl ?_
        exact ⟨⟨kk, b, t, f⟩, _, 0 + 1, _, rfl, HO.out, by omega, hbz⟩
    · obtain ⟨g7, c7, rfl⟩ := own_posD ho7 (by omega)
      have hn0' : (0 : Int) < (n : Int) := by omega
      clear ho7
      go_wp2_with fail
      refine (one_any B _ _ bs 3 w7 HN7.out.src (by omega)).mono ?_; rintro e w8 ⟨u, rfl, hs8, hg8⟩
      have HN8 := Lib.hid (HN7.out.draw hs8 hg8)
      have HR8 := Lib.hid (own_keptD HR7.out hg8 (by have := HN8.out.gq; omega))
      have hbz8 := hg8.size
      clear hs8 hg8 HN7 HR7
      have hbz5 : w5.heap.size ≤ w8.heap.size := by omega
      cases u with
      | false =>
        go_wp2_with fail
        refine (one_any B _ _ bs 8 w8 HN8.out.src (by omega)).mono ?_; rintro e w20 ⟨u2, rfl, hs20, hg20⟩
        have HN20 := Lib.hid (HN8.out.draw hs20 hg20)
        have HR20 := Lib.hid (own_keptD HR8.out hg20 (by have := HN20.out.gq; omega))
        have hbz20 : w5.heap.size ≤ w20.heap.size := by have := hg20.size; omega
        clear hs20 hg20 HN8 HR8
        cases u2 with
        | false =>
          obtain ⟨⟨p0, p1, p2, p3⟩, _⟩ := blk4 HN20.out.hq
          dsimp only at p0 p1 p2 p3
          obtain ⟨⟨r0, r1, r2, r3⟩, s0, s1, s2, s3⟩ := blk4 HN20.out.hr
          have HD := Lib.hid (HN20.out.done ⟨kk, b, t, f⟩)
          have hrq : w.heap.size < w5.heap.size := by have := HN20.out.rg; have := HN20.out.gq; omega
          have HO := Lib.hid (ownsRow_le (own_keptD HR20.out (grown_put4 _ w.heap.size ⟨kk, b, t, f⟩) hrq) (Nat.le_of_lt hrq))
          go_wp2_with fail
          obtain ⟨⟨k0, k1, k2, k3⟩, hbz⟩ := HD.out
          dsimp only at k0 k1 k2 k3
          refine bodyPost_ret (v := .tuple #[aggDm ⟨kk, b, t, f⟩, .slice (some ⟨g7, 0, none⟩) n c7]) (by simp [results, Try.results18, go_sem, k0, k1, k2, k3]) rfl ?_
          exact ⟨⟨kk, b, t, f⟩, _, n, T, rfl, HO.out, by omega, hbz⟩
        | true =>
          go_wp2_with fail
          refine (pick_any B _ _ bs 30 w20 HN20.out.src (by omega)).mono ?_; rintro e w21 ⟨z2, rfl, _, hs21, hg21⟩
          have HN21 := Lib.hid (HN20.out.draw hs21 hg21)
          have HR21 := Lib.hid (own_keptD HR20.out hg21 (by have := HN21.out.gq; omega))
          have hz22 : w5.heap.size ≤ w21.heap.size := by have := hg21.size; omega
          clear hs21 hg21 HN20 HR20
          go_upto_region 10 with (at_builtin; refine wpList_apd 35 2 _ 1 8 Try.underlying35 infoD rfl (by omega) _ _ rfl rfl w5.heap.size _ (n) _ rfl HR21.out #[.int .i64 z2] 1 1 rfl rfl (by simp [Value.oneCell']) (by first | (simp [maxLen]; done) | (simp [maxLen]; omega)) (by omega) hz22 ?_; intro v23 w23 hown23 hg23; have HN23 := Lib.hid (CdD.app (HN21.out) HR21.out (by omega) hg23); rw [tab_snocD] at hown23; have HR23 := Lib.hid hown23; obtain ⟨A23, c23, rfl⟩ := own_sl hown23; clear hown23 hg23 HN21 HR21)
          obtain ⟨⟨p0, p1, p2, p3⟩, _⟩ := blk4 HN23.out.hq
          dsimp only at p0 p1 p2 p3
          obtain ⟨⟨r0, r1, r2, r3⟩, s0, s1, s2, s3⟩ := blk4 HN23.out.hr
          have HD := Lib.hid (HN23.out.done ⟨kk, b, t, f⟩)
          have hrq : w.heap.size < w5.heap.size := by have := HN23.out.rg; have := HN23.out.gq; omega
          have HO := Lib.hid (ownsRow_le (own_keptD HR23.out (grown_put4 _ w.heap.size ⟨kk, b, t, f⟩) hrq) (Nat.le_of_lt hrq))
          go_wp2_with fail
          obtain ⟨⟨k0, k1, k2, k3⟩, hbz⟩ := HD.out
          dsimp only at k0 k1 k2 k3
          refine bodyPost_ret (v := .tuple #[aggDm ⟨kk, b, t, f⟩, .slice A23 (n + 1) c23]) (by simp [results, Try.results18, go_sem, k0, k1, k2, k3]) rfl ?_
          exact ⟨⟨kk, b, t, f⟩, _, n + 1, _, rfl, HO.out, by omega, hbz⟩
      | true =>
        have HP := Lib.hid (pick_any B _ _ bs n w8.drew (SrcAt.drew HN8.out.src) (by omega))
        have hS8 : ∀ i : Nat, i < n → w8.cell? ⟨g7, i, none⟩ = some (.int .i64 (T i)) := fun i hi => ((HR8.out.cellAt i (by omega)).trans (tab_at T hi))
        go_upto_region 7 with (fail)
        refine wp_region_noPanic ?_
        refine wp_region_L [12] (fun w' => ∀ i : Nat, i < n → w'.cell? ⟨g7, i, none⟩ = some (.int .i64 (T i))) (by kernel_rfl) (hS8) (fun hHeld => ?_)
        refine take_F (i := 0) (d := some 29) (v := ?_) (by kernel_rfl) (by kernel_rfl) rfl rfl (by kernel_rfl) (by kernel_rfl) (by kernel_rfl) (fun _ _ _ h => h) (Or.inl ⟨by rfl, ?_⟩) (by assumption) ?_
        rotate_left
        · (intro w hSw; (try dsimp only at hSw); go_simp; (try rw [if_neg (by omega)]); (try (with_reducible rfl)))
        simp only [Act.put, List.setIfInBounds_toArray, List.set_cons_zero, List.set_cons_succ]
        refine take_F (i := 1) (d := some 30) (v := ?_) (by kernel_rfl) (by kernel_rfl) rfl rfl (by kernel_rfl) (by kernel_rfl) (by kernel_rfl) (fun _ _ _ h => h) (Or.inl ⟨by rfl, ?_⟩) (by assumption) ?_
        rotate_left
        · (intro w hSw; (try dsimp only at hSw); go_simp; (try rw [if_neg (by omega)]); (try (with_reducible rfl)))
        simp only [Act.put, List.setIfInBounds_toArray, List.set_cons_zero, List.set_cons_succ]
        refine take_F (i := 2) (d := some 31) (v := ?_) (by kernel_rfl) (by kernel_rfl) rfl rfl (by kernel_rfl) (by kernel_rfl) (by kernel_rfl) (fun _ _ _ h => h) (Or.inl ⟨by rfl, ?_⟩) (by assumption) ?_
        rotate_left
        · (intro w hSw; (try dsimp only at hSw); go_simp; (try rw [if_neg (by omega)]); (try (with_reducible rfl)))
        simp only [Act.put, List.setIfInBounds_toArray, List.set_cons_zero, List.set_cons_succ]
        refine take_F (i := 3) (d := some 32) (v := ?_) (by kernel_rfl) (by kernel_rfl) rfl rfl (by kernel_rfl) (by kernel_rfl) (by kernel_rfl) (fun _ _ _ h => h) (Or.inl ⟨by rfl, ?_⟩) (by assumption) ?_
        rotate_left
        · (intro w hSw; (try dsimp only at hSw); go_simp; (try rw [if_neg (by omega)]); (try (with_reducible rfl)))
        simp only [Act.put, List.setIfInBounds_toArray, List.set_cons_zero, List.set_cons_succ]
        refine take_F (i := 7) (d := some 36) (v := ?_) (by kernel_rfl) (by kernel_rfl) rfl rfl (by kernel_rfl) (by kernel_rfl) (by kernel_rfl) (fun _ _ _ h => h) (Or.inl ⟨by rfl, ?_⟩) (by assumption) ?_
        rotate_left
        · (intro w hSw; (try dsimp only at hSw); go_simp; (try rw [if_neg (by omega)]); (try (with_reducible rfl)))
        simp only [Act.put, List.setIfInBounds_toArray, List.set_cons_zero, List.set_cons_succ]
        refine call_L (i := 4) (d := (some 33)) rfl rfl (by kernel_rfl) (fun Kq hKq => ?_)
        go_simp
        go_at_call 94
        refine HP.out.mono ?_; rintro e w9 ⟨y, rfl, ⟨hy0, hy1, hy2⟩, hs9, hg9⟩
        obtain ⟨i, rfl⟩ : ∃ i : Nat, y = i := ⟨y.toNat, by omega⟩
        have hi : i < n := by
          by_cases h1 : n = 1
          · have := hy2 (by omega); omega
          · have := hy1 (by omega); omega
        have hi' : (i : Int) < (n : Int) := by omega
        have HN9 := Lib.hid (HN8.out.draw hs9 (grown_undrew hg9))
        have HR9 := Lib.hid (own_keptD HR8.out (grown_undrew hg9) (by have := HN9.out.gq; omega))
        have hbz9 := (grown_undrew hg9).size
        have hS9 : ∀ i : Nat, i < n → w9.cell? ⟨g7, i, none⟩ = some (.int .i64 (T i)) := fun i hi => ((HR9.out.cellAt i (by omega)).trans (tab_at T hi))
        clear hs9 hg9 HN8 HR8 HP hS8 hy1 hy2
        (try go_wp2_with fail)
        refine hKq.out _ _ (hS9) (fun hHeld => ?_)
        clear hKq Kq
        (try simp only [Act.put, List.setIfInBounds_toArray, List.set_cons_zero, List.set_cons_succ])
        refine take_F (i := 5) (d := some 34) (v := ?_) (by kernel_rfl) (by kernel_rfl) rfl rfl (by kernel_rfl) (by kernel_rfl) (by kernel_rfl) (fun _ _ _ h => h) (Or.inl ⟨by rfl, ?_⟩) (by assumption) ?_
        rotate_left
        · (intro w hSw; (try dsimp only at hSw); go_simp; (try rw [if_neg (by omega)]); (try (with_reducible rfl)))
        simp only [Act.put, List.setIfInBounds_toArray, List.set_cons_zero, List.set_cons_succ]
        refine take_L [6] (i := 6) (d := some 35) (v := ?_) (by kernel_rfl) (by kernel_rfl) (by kernel_rfl) (by kernel_rfl) rfl rfl (by kernel_rfl) (by kernel_rfl) (by kernel_rfl) (fun _ _ _ h => h) (Or.inl ⟨by rfl, ?_⟩) (by assumption) ?_
        rotate_left
        · (intro w hSw; (try dsimp only at hSw); have hSi := hSw i hi; go_simp; (try rw [hSi]); (try (with_reducible rfl)))
        simp only [Act.put, List.setIfInBounds_toArray, List.set_cons_zero, List.set_cons_succ]
        have HP := Lib.hid (pick_any B _ _ bs 3 w9.drew (SrcAt.drew HN9.out.src) (by omega))
        clear HP
        have HP2 := Lib.hid (pick_any B _ _ bs 3 w9 HN9.out.src (by omega))
        refine call_L (i := 8) (d := (some 37)) rfl rfl (by kernel_rfl) (fun Kq hKq => ?_)
        go_simp
        go_at_call 94
        refine HP2.out.mono ?_; rintro e w10 ⟨z, rfl, ⟨hz0', hz1, _⟩, hs10, hg10⟩
        have hz3 := hz1 (by omega)
        have HN10 := Lib.hid (HN9.out.draw hs10 hg10)
        have HR10 := Lib.hid (own_keptD HR9.out hg10 (by have := HN10.out.gq; omega))
        have hbz10 := hg10.size
        have hS10 : ∀ i : Nat, i < n → w10.cell? ⟨g7, i, none⟩ = some (.int .i64 (T i)) := fun i hi => ((HR10.out.cellAt i (by omega)).trans (tab_at T hi))
        have hfz := HR10.out.frozenAt i
        obtain ⟨u1, u2⟩ := hbd.out i hi
        have hwz : IntKind.i64.wrap (z - 1) = z - 1 := IntWalk.i64_in _ (by omega)
        have hwz2 : IntKind.i64.wrap (T i + (z - 1)) = T i + (z - 1) := IntWalk.i64_in _ (by omega)
        obtain ⟨ho11, hg11⟩ := HR10.out.stored i (.int .i64 (T i + (z - 1)))
        rw [put_at] at ho11
        have HN11 := Lib.hid (CdD.app HN10.out HR10.out hq5 hg11)
        have HR11 := Lib.hid ho11
        have hbz11 := hg11.size
        have hci := hS10 i hi
        clear hs10 hg10 HN9 HR9 hS9 hz1 HP2 HN10 HR10 ho11 hg11
        (try go_wp2_with fail)
        refine hKq.out _ _ (hS10) (fun hHeld => ?_)
        clear hKq Kq
        (try simp only [Act.put, List.setIfInBounds_toArray, List.set_cons_zero, List.set_cons_succ])
        refine take_F (i := 9) (d := some 38) (v := ?_) (by kernel_rfl) (by kernel_rfl) rfl rfl (by kernel_rfl) (by kernel_rfl) (by kernel_rfl) (fun _ _ _ h => h) (Or.inl ⟨by rfl, ?_⟩) (by assumption) ?_
        rotate_left
        · (intro w hSw; (try dsimp only at hSw); go_simp; (try rw [if_neg (by omega)]); (try (with_reducible rfl)))
        simp only [Act.put, List.setIfInBounds_toArray, List.set_cons_zero, List.set_cons_succ]
        refine take_F (i := 10) (d := some 39) (v := ?_) (by kernel_rfl) (by kernel_rfl) rfl rfl (by kernel_rfl) (by kernel_rfl) (by kernel_rfl) (fun _ _ _ h => h) (Or.inl ⟨by rfl, ?_⟩) (by assumption) ?_
        rotate_left
        · (intro w hSw; (try dsimp only at hSw); go_simp; (try rw [if_neg (by omega)]); (try (with_reducible rfl)))
        simp only [Act.put, List.setIfInBounds_toArray, List.set_cons_zero, List.set_cons_succ]
        refine take_F (i := 11) (d := some 40) (v := ?_) (by kernel_rfl) (by kernel_rfl) rfl rfl (by kernel_rfl) (by kernel_rfl) (by kernel_rfl) (fun _ _ _ h => h) (Or.inl ⟨by rfl, ?_⟩) (by assumption) ?_
        rotate_left
        · (intro w hSw; (try dsimp only at hSw); go_simp; (try rw [if_neg (by omega)]); (try (with_reducible rfl)))
        simp only [Act.put, List.setIfInBounds_toArray, List.set_cons_zero, List.set_cons_succ]
        refine late_L (i := 12) (d := none) (by kernel_rfl) rfl rfl (by kernel_rfl) (fun Kq hKq => ?_)
        go_simp
        refine hKq.out _ _ ?_
        clear hKq Kq
        refine done_L (by kernel_rfl) ?_ _
        refine NoPanic.normal ?_
        generalize w10.setCell ⟨g7, i, none⟩ (.int .i64 (T i + (z - 1))) = w11 at *
        have hbz5 : w5.heap.size ≤ w11.heap.size := by omega
        generalize (fun x => if x = i then T i + (z - 1) else T x) = T2 at *
        clear hS10 hci hfz
        go_wp2_with fail
        refine (one_any B _ _ bs 8 w11 HN11.out.src (by omega)).mono ?_; rintro e w20 ⟨u2, rfl, hs20, hg20⟩
        have HN20 := Lib.hid (HN11.out.draw hs20 hg20)
        have HR20 := Lib.hid (own_keptD HR11.out hg20 (by have := HN20.out.gq; omega))
        have hbz20 : w5.heap.size ≤ w20.heap.size := by have := hg20.size; omega
        clear hs20 hg20 HN11 HR11
        cases u2 with
        | false =>
          obtain ⟨⟨p0, p1, p2, p3⟩, _⟩ := blk4 HN20.out.hq
          dsimp only at p0 p1 p2 p3
          obtain ⟨⟨r0, r1, r2, r3⟩, s0, s1, s2, s3⟩ := blk4 HN20.out.hr
          have HD := Lib.hid (HN20.out.done ⟨kk, b, t, f⟩)
          have hrq : w.heap.size < w5.heap.size := by have := HN20.out.rg; have := HN20.out.gq; omega
          have HO := Lib.hid (ownsRow_le (own_keptD HR20.out (grown_put4 _ w.heap.size ⟨kk, b, t, f⟩) hrq) (Nat.le_of_lt hrq))
          go_wp2_with fail
          obtain ⟨⟨k0, k1, k2, k3⟩, hbz⟩ := HD.out
          dsimp only at k0 k1 k2 k3
          refine bodyPost_ret (v := .tuple #[aggDm ⟨kk, b, t, f⟩, .slice (some ⟨g7, 0, none⟩) n c7]) (by simp [results, Try.results18, go_sem, k0, k1, k2, k3]) rfl ?_
          exact ⟨⟨kk, b, t, f⟩, _, n, T2, rfl, HO.out, by omega, hbz⟩
        | true =>
          go_wp2_with fail
          refine (pick_any B _ _ bs 30 w20 HN20.out.src (by omega)).mono ?_; rintro e w21 ⟨z2, rfl, _, hs21, hg21⟩
          have HN21 := Lib.hid (HN20.out.draw hs21 hg21)
          have HR21 := Lib.hid (own_keptD HR20.out hg21 (by have := HN21.out.gq; omega))
          have hz22 : w5.heap.size ≤ w21.heap.size := by have := hg21.size; omega
          clear hs21 hg21 HN20 HR20
          go_upto_region 10 with (at_builtin; refine wpList_apd 35 2 _ 1 8 Try.underlying35 infoD rfl (by omega) _ _ rfl rfl w5.heap.size _ (n) _ rfl HR21.out #[.int .i64 z2] 1 1 rfl rfl (by simp [Value.oneCell']) (by first | (simp [maxLen]; done) | (simp [maxLen]; omega)) (by omega) hz22 ?_; intro v23 w23 hown23 hg23; have HN23 := Lib.hid (CdD.app (HN21.out) HR21.out (by omega) hg23); rw [tab_snocD] at hown23; have HR23 := Lib.hid hown23; obtain ⟨A23, c23, rfl⟩ := own_sl hown23; clear hown23 hg23 HN21 HR21)
          obtain ⟨⟨p0, p1, p2, p3⟩, _⟩ := blk4 HN23.out.hq
          dsimp only at p0 p1 p2 p3
          obtain ⟨⟨r0, r1, r2, r3⟩, s0, s1, s2, s3⟩ := blk4 HN23.out.hr
          have HD := Lib.hid (HN23.out.done ⟨kk, b, t, f⟩)
          have hrq : w.heap.size < w5.heap.size := by have := HN23.out.rg; have := HN23.out.gq; omega
          have HO := Lib.hid (ownsRow_le (own_keptD HR23.out (grown_put4 _ w.heap.size ⟨kk, b, t, f⟩) hrq) (Nat.le_of_lt hrq))
          go_wp2_with fail
          obtain ⟨⟨k0, k1, k2, k3⟩, hbz⟩ := HD.out
          dsimp only at k0 k1 k2 k3
          refine bodyPost_ret (v := .tuple #[aggDm ⟨kk, b, t, f⟩, .slice A23 (n + 1) c23]) (by simp [results, Try.results18, go_sem, k0, k1, k2, k3]) rfl ?_
          exact ⟨⟨kk, b, t, f⟩, _, n + 1, _, rfl, HO.out, by omega, hbz⟩
  · have hq0 : (codeD ⟨kk, b, t, f⟩ x == 0) = false := by rw [beq_eq_false_iff_ne]; exact h0
    generalize codeD ⟨kk, b, t, f⟩ x = CC at *
    obtain ⟨⟨p0, p1, p2, p3⟩, _⟩ := blk4 HN5.out.hq
    dsimp only at p0 p1 p2 p3
    obtain ⟨⟨r0, r1, r2, r3⟩, s0, s1, s2, s3⟩ := blk4 HN5.out.hr
    obtain ⟨⟨p0, p1, p2, p3⟩, _⟩ := blk4 HN5.out.hq
    dsimp only at p0 p1 p2 p3
    have hrq : w.heap.size < w5.heap.size := blk_ltN HN5.out.hr
    have HD := Lib.hid (done_one HN5.out.hr HN5.out.bel ⟨kk, b, t, f⟩)
    clear hqw hz0
    go_wp2_with fail
    obtain ⟨⟨k0, k1, k2, k3⟩, ho, hbz⟩ := HD.out
    dsimp only at k0 k1 k2 k3
    refine bodyPost_ret (v := .tuple #[aggDm ⟨kk, b, t, f⟩, .slice (some ⟨w5.heap.size, 0, none⟩) 1 1]) (by simp [results, Try.results18, go_sem, k0, k1, k2, k3]) rfl ?_
    exact ⟨⟨kk, b, t, f⟩, _, 1, fun _ => 1, rfl, ho, by omega, hbz⟩
end Go.Proofs.Ytdabcpmieiiapaa
/- Drums: a text of points; lines of bytes. -/
namespace Go.Proofs.Ytdabcpmieiiapaa
open Go.RowKit Go.Joins

theorem infoBD : (Try.prog.info? 5).map (fun i => (i.zero, i.size, i.bytes)) = some (some (.int .u8 0), 1, 1) := by kernel_rfl
theorem wpList_strD {P : Program} {w : World} {ops : Array Oper} {rest : List Oper} {o : Oper} {a : Act} {Q : Exit → Act → World → Prop} (t u e : TypeId)
    (ht : P.underlying t = some (.slice e)) (hu : P.underlying u = some .string) (hinfo : (P.info? e).map (fun i => (i.zero, i.size, i.bytes)) = some (some (.int .u8 0), 1, 1))
    (sl x : Operand) (hgd : o.guard = none) (ho : o.op = .call { callee := .builtin .append, args := #[sl, x], argTypes := #[t, u] })
    (base : Nat) (v : Value) (n : Nat) (xs : List Value) (hs : a.eval sl = v) (hown : w.ownsRow base e 1 v n xs) (s : ByteArray) (hx : a.eval x = .string s)
    (h63 : n + s.size ≤ maxLen) (hbytes : n + s.size ≤ 140737488355328) (hbase : base ≤ w.heap.size)
    (h : ∀ v' w', w'.ownsRow base e 1 v' (n + s.size) (xs ++ Lib.strCells s) → w.grownBy w' v.ownBlock → wpList P ops Q rest (a.put o.dst v') w') :
    wpList P ops Q (o :: rest) a w := by
  obtain ⟨i, hi, hz, h2, h3⟩ := info_parts hinfo
  exact Lib.wpList_append_own_string w hgd sl x t u ho base e i ht hu hi hz h2 h3 v n xs hs hown s hx h63 hbytes hbase fun v' w' p q _ => h v' w' p q
theorem own_strD {w : World} {base : Nat} {e : TypeId} {o : Value} {T s R : ByteArray} (hR : T ++ s = R) (h : w.ownsRow base e 1 o (T.size + s.size) (T.data.toList.map byV ++ Lib.strCells s)) : w.ownsRow base e 1 o R.size (R.data.toList.map byV) := by
  subst hR
  rw [ByteArray.size_append]
  have e1 : (T ++ s).data.toList.map byV = T.data.toList.map byV ++ Lib.strCells s := by
    rw [ByteArray.data_append, Array.toList_append, List.map_append]; rfl
  rw [e1]; exact h

def dots (n : Nat) : ByteArray := ⟨(List.replicate n (46 : UInt8)).toArray⟩
theorem dots_size (n : Nat) : (dots n).size = n := by unfold dots; show (List.replicate n (46 : UInt8)).toArray.size = n; simp
theorem dots_succ (n : Nat) : dots n ++ ⟨#[46]⟩ = dots (n + 1) := by
  unfold dots
  apply ByteArray.ext
  rw [ByteArray.data_append]
  apply Array.toList_inj.mp
  rw [Array.toList_append, List.replicate_succ']
set_option maxRecDepth 100000 in
set_option maxHeartbeats 800000 in
theorem repeat_any (n : Nat) (hn : n ≤ 60) (w : World) : Calls Try.prog 107 #[.string ⟨#[46]⟩, .int .i64 (n : Int)] w fun e w' => e = .returned (.string (dots n)) ∧ Below w.heap.size w w' := by
  have hb0 := Lib.hid ((Below.refl w.heap.size w).alloc (Nat.le_refl _) (.cells #[] 5))
  have ho0 := Lib.hid (World.ownsRow_made (base := w.heap.size) (e := 5) (size := 1) w #[] 0 (Nat.le_refl _) (by simp [maxLen]) rfl)
  have hmx : (if (n : Int) < 0 then (0 : Int) else (n : Int)) = (n : Int) := if_neg (by omega)
  have hmx0 : ¬ (n : Int) < 0 := by omega
  go_enter Try.func107, Try.ntmps107
  go_wp2_with fail
  go_loopw [5, 9] (fun o i wr => ∃ k : Nat, k ≤ n ∧ i = .int .i64 (k : Int) ∧ wr.ownsRow w.heap.size 5 1 o (dots k).size ((dots k).data.toList.map byV) ∧ Below w.heap.size w wr) (fun _ i _ => n - (intOf i).toNat)
  case atStart => exact ⟨0, Nat.zero_le _, rfl, ho0.out, hb0.out⟩
  case round =>
    obtain ⟨k, hk, rfl, hown, hbl⟩ := hrel
    have Hown := Lib.hid hown
    have Hbl := Lib.hid hbl
    obtain ⟨A5, c5, rfl⟩ := own_sl hown
    have hbz := hbl.size
    have hdz := dots_size k
    clear hown hbl
    by_cases hlt : k < n
    · have hlt' : (k : Int) < (n : Int) := by omega
      have r3 : (dots k).size + (⟨#[46]⟩ : ByteArray).size ≤ maxLen := by rw [hdz]; show k + 1 ≤ _; simp [maxLen]; omega
      have r2 : (dots k).size + (⟨#[46]⟩ : ByteArray).size ≤ 140737488355328 := by rw [hdz]; show k + 1 ≤ _; omega
      have Hds := Lib.hid (dots_succ k)
      clear hdz
      go_wp2_with (at_builtin; refine wpList_strD 22 9 5 Try.underlying22 Try.underlying9 infoBD _ _ rfl rfl w.heap.size _ (dots k).size _ rfl Hown.out ⟨#[46]⟩ rfl r3 r2 hbz ?_; intro v8 w8 hown8 hg8; have Hb8 := Lib.hid (below_apd Hbl.out Hown.out hg8 (Nat.le_refl _) hbz); have Ho8 := Lib.hid (own_strD Hds.out hown8); clear hown8 hg8)
      go_roundw
      case rel => exact ⟨k + 1, by omega, by go_num, Ho8.out, Hb8.out⟩
      case measure => simp [intOf]; omega
    · have hkn : k = n := by omega
      subst hkn
      have hlt' : ¬ (k : Int) < (k : Int) := by omega
      have hcv := run_conv_own 22 9 5 Try.underlying22 Try.underlying5 Try.underlying9 w.heap.size _ _ _ Hown.out
      clear hdz
      go_wp2_with fail
      go_ret
      exact ⟨rfl, Hbl.out⟩
/-- a block of bytes that may bear a mark behind them -/
structure BkF (w : World) (g n : Nat) (h : Nat → UInt8) : Prop where
  ex : ∃ (cs : Array Value) (fr : Nat × Nat), w.heap[g]? = some (.cells cs 5 fr) ∧ n ≤ cs.size ∧ (∀ i, i < n → cs[i]? = some (byV (h i))) ∧ ∀ i, i < n → (decide (fr.1 ≤ i) && decide (i < fr.2)) = false
theorem BkF.cell {w : World} {g n : Nat} {h : Nat → UInt8} (k : BkF w g n h) (i : Nat) (hi : i < n) : w.cell? ⟨g, i, none⟩ = some (byV (h i)) := by
  obtain ⟨cs, fr, h1, h2, h3, h4⟩ := k.ex
  rw [cell_of_row w g i cs _ fr h1]; exact h3 i hi
theorem BkF.free {w : World} {g n : Nat} {h : Nat → UInt8} (k : BkF w g n h) (i : Nat) (hi : i < n) : w.frozen? ⟨g, i, none⟩ = false := by
  obtain ⟨cs, fr, h1, h2, h3, h4⟩ := k.ex
  unfold World.frozen?
  rw [h1]
  exact h4 i hi
theorem BkF.lt {w : World} {g n : Nat} {h : Nat → UInt8} (k : BkF w g n h) : g < w.heap.size := by
  obtain ⟨cs, fr, h1, _⟩ := k.ex
  exact blk_ltN h1
theorem BkF.below {w w' : World} {g n : Nat} {h : Nat → UInt8} (k : BkF w g n h) (hb : Below w.heap.size w w') : BkF w' g n h := by
  have hl := k.lt
  obtain ⟨cs, fr, h1, h2⟩ := k.ex
  exact ⟨cs, fr, (hb.block g hl).trans h1, h2⟩
theorem BkF.set {w : World} {g n : Nat} {h : Nat → UInt8} (k : BkF w g n h) (i : Nat) (hi : i < n) (c : UInt8) : BkF (w.setCell ⟨g, i, none⟩ (byV c)) g n (fun x => if x = i then c else h x) := by
  obtain ⟨cs, fr, h1, h2, h3, h4⟩ := k.ex
  refine ⟨cs.setIfInBounds i (byV c), fr, ?_, by simpa using h2, fun j hj => ?_, h4⟩
  · show (w.heap.modify g _)[g]? = _
    rw [Array.getElem?_modify]
    simp [h1]
  · rw [Array.getElem?_setIfInBounds]
    by_cases e : j = i
    · subst e
      simp
      omega
    · rw [if_neg (fun h => e h.symm), if_neg e]; exact h3 j hj
theorem BkF.text {w : World} {g n cap : Nat} {h : Nat → UInt8} (k : BkF w g n h) : (convert 22 9 (.slice (some ⟨g, 0, none⟩) n cap)).run Try.prog w = .ok (.string ⟨((List.range n).map h).toArray⟩) w := by
  have := run_convert_bytes_back (P := Try.prog) w 22 9 5 ⟨g, 0, none⟩ cap ((List.range n).map h) Try.underlying22 Try.underlying5 Try.underlying9 (fun j hj => by
    have hj' : j < n := by simpa using hj
    rw [show (⟨g, 0, none⟩ : Addr).add j = ⟨g, j, none⟩ by unfold Addr.add; split <;> simp_all]
    rw [k.cell j hj']
    simp [byV])
  simpa using this
end Go.Proofs.Ytdabcpmieiiapaa
/- Drums: the lines of the teeth; impl. -/
namespace Go.Proofs.Ytdabcpmieiiapaa
open Go.RowKit Go.Joins

theorem infoStrD : (Try.prog.info? 9).map (fun i => (i.zero, i.size, i.bytes)) = some (some (.string ⟨#[]⟩), 1, 16) := by kernel_rfl
/-- a block's cells after the marks of j times -/
def lnF (T : Nat → Int) : Nat → Nat → UInt8
  | 0 => fun _ => 46
  | j + 1 => fun x => if x = (T j - 1).toNat then 35 else lnF T j x
def lineD (d : Dm) (n : Nat) : ByteArray := ⟨((List.range d.t.toNat).map (lnF (timeD d n) n)).toArray⟩
def linesD (d : Dm) : List ByteArray := if okDm d then (List.range d.b.toNat).map (lineD d) else []
theorem linesD_no {d : Dm} (h : okDm d = false) : linesD d = [] := by unfold linesD; rw [h]; rfl
theorem linesD_yes {d : Dm} (h : okDm d = true) : linesD d = (List.range d.b.toNat).map (lineD d) := by unfold linesD; rw [h]; rfl
theorem linesD_len (d : Dm) : (linesD d).length ≤ 16 := by
  cases h : okDm d
  · rw [linesD_no h]; simp
  · rw [linesD_yes h]
    have := (okDm_bd h).2.2.1
    simp only [List.length_map, List.length_range]
    omega
/-- the first n lines, as values -/
def lsV (L : Nat → ByteArray) (n : Nat) : List Value := (List.range n).map (fun k => .string (L k))
theorem lsV_succ (L : Nat → ByteArray) (n : Nat) : lsV L (n + 1) = lsV L n ++ [.string (L n)] := by unfold lsV; rw [List.range_succ, List.map_append]; rfl
theorem lsV_all {d : Dm} (h : okDm d = true) : lsV (lineD d) d.b.toNat = (linesD d).map Value.string := by rw [linesD_yes h]; unfold lsV; rw [List.map_map]; rfl
def RetDl (w : World) (d : Dm) (e : Ending) (w' : World) : Prop :=
  ∃ v, e = .returned (.tuple #[v, .int .i64 (if okDm d then 0 else 1)]) ∧ w'.ownsRow w.heap.size 9 1 v (linesD d).length ((linesD d).map Value.string) ∧ Below w.heap.size w w'
theorem BkF.conv (w : World) (n cp : Nat) : BkF (w.drew.alloc (.cells (bytesRow (dots n) cp) 5 ((bytesRow (dots n) cp).size, (bytesRow (dots n) cp).size + 1))) w.heap.size n (fun _ => 46) := by
  have hz : n ≤ (bytesRow (dots n) cp).size := by
    unfold bytesRow dots
    simp
  refine ⟨_, _, heap_alloc_new w.drew _, hz, fun i hi => ?_, fun i hi => ?_⟩
  · unfold bytesRow dots
    rw [Array.getElem?_append]
    simp [hi, byV]
  · have : ¬ (bytesRow (dots n) cp).size ≤ i := by omega
    simp [this]
theorem own_cells {w : World} {base n c : Nat} {A : Option Addr} {f : Nat → Int} (h : w.ownsRow base 2 1 (.slice A n c) n (tab n f)) (hn : 0 < n) :
    ∃ b, A = some ⟨b, 0, none⟩ ∧ base ≤ b ∧ b < w.heap.size ∧ ∀ j, j < n → w.cell? ⟨b, j, none⟩ = some (.int .i64 (f j)) := by
  obtain ⟨b, cap, hv, _⟩ := own_posC h hn
  injection hv with hA
  subst hA
  have hl := h.lt b rfl
  obtain ⟨bb, oo, hA2, _, hc⟩ := rdF_all (Rd.of_own h) hn
  injection hA2 with hA2
  injection hA2 with e1 e2
  subst e1
  subst e2
  exact ⟨b, rfl, hl.1, hl.2, fun j hj => by have := hc j hj; rwa [Nat.zero_add] at this⟩
theorem grown_cell {a w : World} {g b i : Nat} (h : a.grownBy w (some g)) (hb : b < a.heap.size) (hne : b ≠ g) : w.cell? ⟨b, i, none⟩ = a.cell? ⟨b, i, none⟩ := by
  unfold World.cell?
  rw [h.block b hb (fun e => hne (by injection e))]
/-- inside the loop over the times -/
structure LnI (w0 w6 wr : World) (g t j : Nat) (T : Nat → Int) : Prop where
  bk : BkF wr g t (lnF T j)
  bel : Below w0.heap.size w0 wr
  gr : w6.grownBy wr (some g)
theorem LnI.step {w0 w6 wr : World} {g t j : Nat} {T : Nat → Int} (h : LnI w0 w6 wr g t j T) (hg : w0.heap.size ≤ g) (h1 : 1 ≤ T j) (h2 : T j ≤ t) {i : Nat} (hi : i = (T j - 1).toNat) {x : Value} (hx : x = byV 35) : LnI w0 w6 (wr.setCell ⟨g, i, none⟩ x) g t (j + 1) T := by
  subst hi
  subst hx
  exact ⟨h.bk.set _ (by omega) 35, h.bel.setCell (p := ⟨g, _, none⟩) hg _, grown_setCell h.gr (p := ⟨g, _, none⟩) (.inl rfl) _⟩

set_option maxRecDepth 100000 in
set_option maxHeartbeats 3200000 in
theorem LinesI_any (d : Dm) (w : World) : Calls Try.prog 22 #[aggDm d] w (RetDl w d) := by
  have HV := Lib.hid (fun wx => ValidDm_any d wx)
  have HT := Lib.hid (fun wx n hok hn => times_any d n wx hok hn)
  have HTB := Lib.hid (fun n j hok hn hj => timeD_bd (d := d) (n := n) (j := j) hok hn hj)
  have hb1 := (Below.refl w.heap.size w).alloc (Nat.le_refl _) (objDm d)
  have HQ := Lib.hid (heap_alloc_new w (objDm d))
  have HB1 := Lib.hid hb1
  have hlt1 : w.heap.size < (w.alloc (objDm d)).heap.size := by simp
  have Hln := Lib.hid (show ∀ n, lineD d n = ⟨((List.range d.t.toNat).map (lnF (timeD d n) n)).toArray⟩ from fun n => rfl)
  have Hno := Lib.hid (fun h : okDm d = false => linesD_no h)
  have Hall := Lib.hid (fun h : okDm d = true => lsV_all h)
  have Hbd := Lib.hid (fun h : okDm d = true => okDm_bd h)
  have Hll := Lib.hid (fun h : okDm d = true => (show (linesD d).length = d.b.toNat by rw [linesD_yes h]; simp))
  unfold RetDl
  generalize linesD d = LD at *
  generalize lineD d = L at *
  generalize timeD d = T at *
  obtain ⟨k, b, t, f⟩ := d
  dsimp only at *
  unfold RetF at HT
  clear hb1
  cases hok : okDm ⟨k, b, t, f⟩
  · have Hn := Lib.hid (Hno.out hok)
    rw [hok] at HV
    clear Hbd Hall Hll Hno HT HTB
    obtain ⟨c0, c1, c2, c3⟩ := four_at HQ.out
    go_enter Try.func22, Try.ntmps22
    go_wp2_with fail
    generalize w.alloc (.cells #[.int .i64 k, .int .i64 b, .int .i64 t, .int .i64 f] 25) = w1 at *
    refine (HV.out _).mono ?_; rintro e w2 ⟨rfl, hb2⟩
    have Hb2 := Lib.hid (HB1.out.trans (hb2.mono HB1.out.size))
    clear hb2
    go_wp2_with fail
    go_ret2
    exact ⟨_, rfl, by rw [Hn.out]; exact World.ownsRow_nil _ _ _ _, Hb2.out⟩
  · obtain ⟨_, b1, b2, b3, b4, _⟩ := Hbd.out hok
    have HA := Lib.hid (Hall.out hok)
    have HL := Lib.hid (Hll.out hok)
    have HT2 := Lib.hid (fun wx n hn => HT.out wx n hok hn)
    have HTB2 := Lib.hid (fun n j hn hj => HTB.out n j hok hn hj)
    rw [hok] at HV
    clear Hbd Hall Hll Hno HT HTB
    obtain ⟨bn, hbn⟩ : ∃ bn : Nat, b = (bn : Int) := ⟨b.toNat, by omega⟩
    obtain ⟨tn, htn⟩ : ∃ tn : Nat, t = (tn : Int) := ⟨t.toNat, by omega⟩
    subst hbn
    subst htn
    simp only [Int.toNat_natCast] at *
    have htn60 : tn ≤ 60 := by omega
    have HRp := Lib.hid (fun wx => repeat_any tn htn60 wx)
    obtain ⟨c0, c1, c2, c3⟩ := four_at HQ.out
    go_enter Try.func22, Try.ntmps22
    go_wp2_with fail
    generalize w.alloc (.cells #[.int .i64 k, .int .i64 (bn : Int), .int .i64 (tn : Int), .int .i64 f] 25) = w1 at *
    refine (HV.out _).mono ?_; rintro e w2 ⟨rfl, hb2⟩
    have Hb2 := Lib.hid (HB1.out.trans (hb2.mono HB1.out.size))
    have HQ2 := Lib.hid ((hb2.block _ hlt1).trans HQ.out)
    have hlt2 := Nat.lt_of_lt_of_le hlt1 hb2.size
    have hz2 := Hb2.out.size
    clear c0 c1 c2 c3 hb2 HQ HB1 HV hlt1
    obtain ⟨c0, c1, c2, c3⟩ := four_at HQ2.out
    have hb0 := Lib.hid ((Below.refl w2.heap.size w2).alloc (Nat.le_refl _) (.cells #[] 9))
    have ho0 := Lib.hid (World.ownsRow_made (base := w2.heap.size) (e := 9) (size := 1) w2 #[] 0 (Nat.le_refl _) (by simp [maxLen]) rfl)
    go_wp2_with fail
    go_loopw [4, 15] (fun o i wr => ∃ n : Nat, n ≤ bn ∧ i = .int .i64 (n : Int) ∧ wr.ownsRow w2.heap.size 9 1 o n (lsV L n) ∧ Below w2.heap.size w2 wr) (fun _ i _ => bn - (intOf i).toNat)
    case atStart => exact ⟨0, Nat.zero_le _, rfl, ho0.out, hb0.out⟩
    case round =>
      obtain ⟨n, hn, rfl, hown, hbl⟩ := hrel
      have Hown := Lib.hid hown
      have Hbl := Lib.hid hbl
      obtain ⟨A5, c5, rfl⟩ := own_sl hown
      have hzr := hbl.size
      clear ho0 hb0 c0 c1 c2 c3
      by_cases hlt : n < bn
      · have hlt' : (n : Int) < (bn : Int) := by omega
        obtain ⟨c0, c1, c2, c3⟩ := four_at ((hbl.block _ hlt2).trans HQ2.out)
        clear hown hbl
        go_wp2_with fail
        refine (HRp.out _).mono ?_; rintro e w5 ⟨rfl, hb5⟩
        have hcv := run_bytes_of_string (P := Try.prog) w5 9 22 5 (dots tn) Try.underlying9 Try.underlying22 Try.underlying5
        rw [dots_size] at hcv
        generalize grownCap w5 tn 0 5 = cp at hcv
        have hbk := BkF.conv w5 tn cp
        have hzz : (w5.drew.alloc (.cells (bytesRow (dots tn) cp) 5 ((bytesRow (dots tn) cp).size, (bytesRow (dots tn) cp).size + 1))).heap.size = w5.heap.size + 1 := by simp
        have hb5b := hb5.trans ((((Below.refl w5.heap.size w5).drew).alloc (Nat.le_refl _) (.cells (bytesRow (dots tn) cp) 5 ((bytesRow (dots tn) cp).size, (bytesRow (dots tn) cp).size + 1))).mono hb5.size)
        have hz5 := hb5.size
        generalize w5.drew.alloc (.cells (bytesRow (dots tn) cp) 5 ((bytesRow (dots tn) cp).size, (bytesRow (dots tn) cp).size + 1)) = w6 at *
        have HBK := Lib.hid hbk
        have HB6 := Lib.hid hb5b
        clear hbk hb5 hb5b c0 c1 c2 c3
        obtain ⟨c0, c1, c2, c3⟩ := four_at (((Hbl.out.trans (HB6.out.mono hzr)).block _ hlt2).trans HQ2.out)
        go_wp2_with fail
        have HTn := Lib.hid (HT2.out w6 n hlt')
        have HTBn := Lib.hid (fun j hj => HTB2.out n j hlt' hj)
        have HLn := Lib.hid (Hln.out n)
        generalize T (n : Int) = S at *
        refine HTn.out.mono ?_; rintro e w7 ⟨v7, rfl, ho7, hb7⟩
        obtain ⟨A7, c7, rfl⟩ := own_sl ho7
        have hz7 := hb7.size
        have H0 : Hid (LnI wr w7 w7 w5.heap.size tn 0 S) := Lib.hid ⟨HBK.out.below hb7, HB6.out.trans (hb7.mono (by omega)), grown_of_below (Below.refl _ _) _⟩
        have Ho7 := Lib.hid ho7
        have Hb7 := Lib.hid hb7
        clear ho7 hb7 c0 c1 c2 c3 hcv
        go_wp2_with fail
        go_loopw [26] (fun i wx => ∃ j : Nat, j ≤ n ∧ i = .int .i64 (j : Int) ∧ LnI wr w7 wx w5.heap.size tn j S) (fun i _ => n - (intOf i).toNat)
        case atStart => exact ⟨0, Nat.zero_le _, rfl, H0.out⟩
        case round =>
          obtain ⟨j, hj, rfl, hI⟩ := hrel
          have HI := Lib.hid hI
          clear hI
          by_cases hjlt : j < n
          · have hjlt' : (j : Int) < (n : Int) := by omega
            obtain ⟨b7, hA7, q1, q2, q3⟩ := own_cells Ho7.out (by omega)
            subst hA7
            have hcz := (grown_cell HI.out.gr q2 (by omega)).trans (q3 j hjlt)
            obtain ⟨z1, z2⟩ := HTBn.out j hjlt
            have HS := Lib.hid (fun (i : Nat) (x : Value) (hi : i = (S j - 1).toNat) (hx : x = byV 35) => HI.out.step (by omega) z1 z2 hi hx)
            generalize S j = z at *
            obtain ⟨i, hi⟩ : ∃ i : Nat, z - 1 = (i : Int) := ⟨(z - 1).toNat, by omega⟩
            have hil : i < tn := by omega
            have hfr := HI.out.bk.free i hil
            have hce := HI.out.bk.cell i hil
            have hlt8 := HI.out.bk.lt
            generalize lnF S j i = u at *
            clear q1 q2 q3
            go_wp2_with fail
            go_roundw
            case rel => exact ⟨j + 1, by omega, by go_num, HS.out _ _ (by omega) rfl⟩
            case measure => simp [intOf]; omega
          · have hjn : j = n := by omega
            subst hjn
            have hjlt' : ¬ (j : Int) < (j : Int) := by omega
            have hcv := fun cp => BkF.text (cap := cp) HI.out.bk
            have Hlj := Lib.hid (HLn.out)
            rw [← HLn.out] at hcv
            have hb9 := HI.out.bel
            have ho9 := own_below Hown.out hb9
            have hbb9 := Hbl.out.trans (hb9.mono hzr)
            have Ho9 := Lib.hid ho9
            have Hb9 := Lib.hid hbb9
            have hz9 := hbb9.size
            have Hst := Lib.hid (lsV_succ L j)
            generalize L j = Z at *
            clear hb9 ho9 hbb9
            go_wp2_with (at_builtin; refine wpList_apd 42 9 _ 1 16 Try.underlying42 infoStrD rfl (by omega) _ _ rfl rfl w2.heap.size _ j _ rfl Ho9.out #[.string Z] 1 1 rfl rfl (by simp [Value.oneCell']) (by simp [maxLen]; omega) (by omega) hz9 ?_; intro v10 w10 hown10 hg10; have Hb10 := Lib.hid (below_apd Hb9.out Ho9.out hg10 (Nat.le_refl _) hz9); have Ho10 := Lib.hid hown10; clear hown10 hg10)
            go_roundw
            case rel => exact ⟨j + 1, by omega, by go_num, by rw [Hst.out]; exact Ho10.out, Hb10.out⟩
            case measure => simp [intOf]; omega
      · have hnn : n = bn := by omega
        subst hnn
        have hlt' : ¬ (n : Int) < (n : Int) := by omega
        have HO := Lib.hid (ownsRow_le Hown.out hz2)
        rw [HA.out] at HO
        have Hbf := Lib.hid (Hb2.out.trans (Hbl.out.mono hz2))
        clear hown hbl
        go_wp2_with fail
        go_ret2
        exact ⟨_, rfl, by rw [HL.out]; exact HO.out, Hbf.out⟩
end Go.Proofs.Ytdabcpmieiiapaa
/- Drums: the lines of the teeth; spec. -/
namespace Go.Proofs.Ytdabcpmieiiapaa
open Go.RowKit Go.Joins

theorem BkF.congr {w : World} {g n : Nat} {h h' : Nat → UInt8} (k : BkF w g n h) (e : ∀ i, i < n → h i = h' i) : BkF w g n h' := by
  obtain ⟨cs, fr, h1, h2, h3, h4⟩ := k.ex
  exact ⟨cs, fr, h1, h2, fun i hi => by rw [h3 i hi, e i hi], h4⟩
theorem made0 (n : Nat) : (madeCells (Value.int .u8 0).cells (n * 1)).toList = List.replicate n (.int .u8 0) := by
  unfold madeCells
  apply List.ext_getElem
  · simp
  · intro i h1 h2
    simp [Value.cells, Nat.mod_one]
theorem BkF.made {w : World} {base g n c : Nat} (h : w.ownsRow base 5 1 (.slice (some ⟨g, 0, none⟩) n c) n (madeCells (Value.int .u8 0).cells (n * 1)).toList) : BkF w g n (fun _ => 0) := by
  rw [made0] at h
  rcases h.2 with ⟨h', _⟩ | ⟨g', cap', cur, h', _, hg, hnc, _, hs, ht⟩
  · simp at h'
  · injection h' with e1 e2 e3
    injection e1 with e1
    injection e1 with e1
    subst e1
    refine ⟨cur, (0, 0), hg, by omega, fun i hi => ?_, fun i hi => by simp⟩
    have := congrArg (fun l => l[i]?) ht
    simp [hi] at this
    rw [this]; rfl
/-- the first k points -/
def ptF (k : Nat) : Nat → UInt8 := fun x => if x < k then 46 else 0
theorem ptF.step {w0 w : World} {g t k : Nat} (h : BkF w g t (ptF k) ∧ Below w0.heap.size w0 w) (hg : w0.heap.size ≤ g) (hk : k < t) {x : Value} (hx : x = byV 46) : BkF (w.setCell ⟨g, k, none⟩ x) g t (ptF (k + 1)) ∧ Below w0.heap.size w0 (w.setCell ⟨g, k, none⟩ x) := by
  subst hx
  refine ⟨(h.1.set k hk 46).congr (fun i hi => ?_), h.2.setCell (p := ⟨g, _, none⟩) hg _⟩
  unfold ptF
  by_cases e : i = k
  · subst e; simp
  · rw [if_neg e]
    by_cases e2 : i < k
    · rw [if_pos e2, if_pos (by omega)]
    · rw [if_neg e2, if_neg (by omega)]
theorem ptF.all {w : World} {g t : Nat} (h : BkF w g t (ptF t)) : BkF w g t (fun _ => 46) := h.congr (fun i hi => by unfold ptF; rw [if_pos hi])

set_option maxRecDepth 100000 in
set_option maxHeartbeats 3200000 in
theorem LinesS_any (d : Dm) (w : World) : Calls Try.prog 23 #[aggDm d] w (RetDl w d) := by
  have HV := Lib.hid (fun wx h => l05Ok_any w.heap.size d wx h)
  have HT := Lib.hid (fun wx n h hq hok hn => l05Times_any w.heap.size d n wx h hq hok hn)
  have HTB := Lib.hid (fun n j hok hn hj => timeD_bd (d := d) (n := n) (j := j) hok hn hj)
  have hb1 := (Below.refl w.heap.size w).alloc (Nat.le_refl _) (objDm d)
  have HQ := Lib.hid (heap_alloc_new w (objDm d))
  have HB1 := Lib.hid hb1
  have HAt := Lib.hid (DmAt.of HQ.out)
  have hlt1 : w.heap.size < (w.alloc (objDm d)).heap.size := by simp
  have Hln := Lib.hid (show ∀ n, lineD d n = ⟨((List.range d.t.toNat).map (lnF (timeD d n) n)).toArray⟩ from fun n => rfl)
  have Hno := Lib.hid (fun h : okDm d = false => linesD_no h)
  have Hall := Lib.hid (fun h : okDm d = true => lsV_all h)
  have Hbd := Lib.hid (fun h : okDm d = true => okDm_bd h)
  have Hll := Lib.hid (fun h : okDm d = true => (show (linesD d).length = d.b.toNat by rw [linesD_yes h]; simp))
  unfold RetDl
  generalize linesD d = LD at *
  generalize lineD d = L at *
  generalize timeD d = T at *
  obtain ⟨k, b, t, f⟩ := d
  dsimp only at *
  unfold RetF at HT
  clear hb1
  cases hok : okDm ⟨k, b, t, f⟩
  · have Hn := Lib.hid (Hno.out hok)
    rw [hok] at HV
    clear Hbd Hall Hll Hno HT HTB
    obtain ⟨c0, c1, c2, c3⟩ := four_at HQ.out
    go_enter Try.func23, Try.ntmps23
    go_wp2_with fail
    generalize w.alloc (.cells #[.int .i64 k, .int .i64 b, .int .i64 t, .int .i64 f] 25) = w1 at *
    refine (HV.out _ HAt.out).mono ?_; rintro e w2 ⟨rfl, n2, hw2⟩
    have Hb2 : Hid (Below w.heap.size w w2) := Lib.hid (by rw [hw2]; exact below_drewN HB1.out n2)
    clear hw2
    go_wp2_with fail
    go_ret2
    exact ⟨_, rfl, by rw [Hn.out]; exact World.ownsRow_nil _ _ _ _, Hb2.out⟩
  · obtain ⟨_, b1, b2, b3, b4, _⟩ := Hbd.out hok
    have HA := Lib.hid (Hall.out hok)
    have HL := Lib.hid (Hll.out hok)
    have HT2 := Lib.hid (fun wx n h hq hn => HT.out wx n h hq hok hn)
    have HTB2 := Lib.hid (fun n j hn hj => HTB.out n j hok hn hj)
    rw [hok] at HV
    clear Hbd Hall Hll Hno HT HTB
    obtain ⟨bn, hbn⟩ : ∃ bn : Nat, b = (bn : Int) := ⟨b.toNat, by omega⟩
    obtain ⟨tn, htn⟩ : ∃ tn : Nat, t = (tn : Int) := ⟨t.toNat, by omega⟩
    subst hbn
    subst htn
    simp only [Int.toNat_natCast] at *
    have htn60 : tn ≤ 60 := by omega
    obtain ⟨c0, c1, c2, c3⟩ := four_at HQ.out
    go_enter Try.func23, Try.ntmps23
    go_wp2_with fail
    generalize w.alloc (.cells #[.int .i64 k, .int .i64 (bn : Int), .int .i64 (tn : Int), .int .i64 f] 25) = w1 at *
    refine (HV.out _ HAt.out).mono ?_; rintro e w2 ⟨rfl, n2, hw2⟩
    have hb2 : Below w1.heap.size w1 w2 := by rw [hw2]; exact below_drewN (Below.refl _ _) n2
    have Hb2 := Lib.hid (HB1.out.trans (hb2.mono HB1.out.size))
    have HQ2 := Lib.hid ((hb2.block _ hlt1).trans HQ.out)
    have HAt2 := Lib.hid (HAt.out.below hlt1 hb2)
    have hlt2 := Nat.lt_of_lt_of_le hlt1 hb2.size
    have hz2 := Hb2.out.size
    clear c0 c1 c2 c3 hb2 HQ HB1 HV hlt1 hw2
    obtain ⟨iB, hiB, hzB, hsB, hyB⟩ := info_parts infoBD
    obtain ⟨c0, c1, c2, c3⟩ := four_at HQ2.out
    have hb0 := Lib.hid ((Below.refl w2.heap.size w2).alloc (Nat.le_refl _) (.cells #[] 9))
    have ho0 := Lib.hid (World.ownsRow_made (base := w2.heap.size) (e := 9) (size := 1) w2 #[] 0 (Nat.le_refl _) (by simp [maxLen]) rfl)
    go_wp2_with fail
    go_loopw [4, 5] (fun o i wr => ∃ n : Nat, n ≤ bn ∧ i = .int .i64 (n : Int) ∧ wr.ownsRow w2.heap.size 9 1 o n (lsV L n) ∧ Below w2.heap.size w2 wr) (fun _ i _ => bn - (intOf i).toNat)
    case atStart => exact ⟨0, Nat.zero_le _, rfl, ho0.out, hb0.out⟩
    case round =>
      obtain ⟨n, hn, rfl, hown, hbl⟩ := hrel
      rename World => w0
      have Hown := Lib.hid hown
      have Hbl := Lib.hid hbl
      obtain ⟨A5, c5, rfl⟩ := own_sl hown
      have hzr := hbl.size
      clear ho0 hb0 c0 c1 c2 c3
      by_cases hlt : n < bn
      · have hlt' : (n : Int) < (bn : Int) := by omega
        obtain ⟨c0, c1, c2, c3⟩ := four_at ((hbl.block _ hlt2).trans HQ2.out)
        have HAtr := Lib.hid (HAt2.out.below hlt2 hbl)
        have hlt3 := Nat.lt_of_lt_of_le hlt2 hbl.size
        clear hown hbl
        go_wp2_with (at_make; refine wpList_make_full _ rfl _ _ 22 rfl w0.heap.size 5 iB (.int .u8 0) 1 Try.underlying22 hiB hzB hsB .i64 .i64 _ _ tn rfl rfl rfl rfl (by rw [hyB]; omega) (by simp [maxLen]; omega) (Nat.le_refl _) ?_; intro w5 ho5 hg5; have HP0 : Hid (BkF w5 w0.heap.size tn (ptF 0) ∧ Below w0.heap.size w0 w5) := Lib.hid ⟨(BkF.made ho5).congr (fun i hi => rfl), below_of_grown hg5 (Nat.le_refl _) (fun x hx => by cases hx)⟩; clear ho5 hg5)
        clear c0 c1 c2 c3
        go_loopw [24] (fun i wx => ∃ k : Nat, k ≤ tn ∧ i = .int .i64 (k : Int) ∧ BkF wx w0.heap.size tn (ptF k) ∧ Below w0.heap.size w0 wx) (fun i _ => tn - (intOf i).toNat)
        case atStart => exact ⟨0, Nat.zero_le _, rfl, HP0.out⟩
        case round =>
          obtain ⟨k, hk, rfl, hP⟩ := hrel
          have HP := Lib.hid hP
          clear hP HP0
          by_cases hklt : k < tn
          · have hklt' : (k : Int) < (tn : Int) := by omega
            have HS := Lib.hid (fun (x : Value) (hx : x = byV 46) => ptF.step HP.out (Nat.le_refl _) hklt hx)
            have hfr := HP.out.1.free k hklt
            have hce := HP.out.1.cell k hklt
            have hlt8 := HP.out.1.lt
            generalize ptF k k = u at *
            go_wp2_with fail
            go_roundw
            case rel => exact ⟨k + 1, by omega, by go_num, HS.out _ rfl⟩
            case measure => simp [intOf]; omega
          · have hkn : k = tn := by omega
            subst hkn
            have hklt' : ¬ (k : Int) < (k : Int) := by omega
            have HBK := Lib.hid (ptF.all HP.out.1)
            have HB6 := Lib.hid HP.out.2
            have hz6 := HP.out.2.size
            have HAt6 := Lib.hid (HAtr.out.below hlt3 HP.out.2)
            have hlt8 := HP.out.1.lt
            clear HP
            have HTn := Lib.hid (HT2.out _ n HAt6.out (Nat.lt_of_lt_of_le hlt3 hz6) hlt')
            have HTBn := Lib.hid (fun j hj => HTB2.out n j hlt' hj)
            have HLn := Lib.hid (Hln.out n)
            generalize T (n : Int) = S at *
            go_wp2_with fail
            refine HTn.out.mono ?_; rintro e w7 ⟨v7, rfl, ho7, hb7⟩
            obtain ⟨A7, c7, rfl⟩ := own_sl ho7
            have hz7 := hb7.size
            have H0 : Hid (LnI w0 w7 w7 w0.heap.size k 0 S) := Lib.hid ⟨HBK.out.below hb7, HB6.out.trans (hb7.mono hz6), grown_of_below (Below.refl _ _) _⟩
            have Ho7 := Lib.hid ho7
            have Hb7 := Lib.hid hb7
            clear ho7 hb7
            go_wp2_with fail
            go_loopw [9] (fun i wy => ∃ j : Nat, j ≤ n ∧ i = .int .i64 (j : Int) ∧ LnI w0 w7 wy w0.heap.size k j S) (fun i _ => n - (intOf i).toNat)
            case atStart => exact ⟨0, Nat.zero_le _, rfl, H0.out⟩
            case round =>
              obtain ⟨j, hj, rfl, hI⟩ := hrel
              have HI := Lib.hid hI
              clear hI
              by_cases hjlt : j < n
              · have hjlt' : (j : Int) < (n : Int) := by omega
                obtain ⟨b7, hA7, q1, q2, q3⟩ := own_cells Ho7.out (by omega)
                subst hA7
                have hcz := (grown_cell HI.out.gr q2 (by omega)).trans (q3 j hjlt)
                obtain ⟨z1, z2⟩ := HTBn.out j hjlt
                have HS := Lib.hid (fun (i : Nat) (x : Value) (hi : i = (S j - 1).toNat) (hx : x = byV 35) => HI.out.step (by omega) z1 z2 hi hx)
                generalize S j = z at *
                obtain ⟨i, hi⟩ : ∃ i : Nat, z - 1 = (i : Int) := ⟨(z - 1).toNat, by omega⟩
                have hil : i < k := by omega
                have hfr := HI.out.bk.free i hil
                have hce := HI.out.bk.cell i hil
                have hlt8 := HI.out.bk.lt
                generalize lnF S j i = u at *
                clear q1 q2 q3
                go_wp2_with fail
                go_roundw
                case rel => exact ⟨j + 1, by omega, by go_num, HS.out _ _ (by omega) rfl⟩
                case measure => simp [intOf]; omega
              · have hjn : j = n := by omega
                subst hjn
                have hjlt' : ¬ (j : Int) < (j : Int) := by omega
                have hcv := fun cp => BkF.text (cap := cp) HI.out.bk
                have Hlj := Lib.hid (HLn.out)
                rw [← HLn.out] at hcv
                have hb9 := HI.out.bel
                have ho9 := own_below Hown.out hb9
                have hbb9 := Hbl.out.trans (hb9.mono hzr)
                have Ho9 := Lib.hid ho9
                have Hb9 := Lib.hid hbb9
                have hz9 := hbb9.size
                have Hst := Lib.hid (lsV_succ L j)
                generalize L j = Z at *
                clear hb9 ho9 hbb9
                go_wp2_with (at_builtin; refine wpList_apd 42 9 _ 1 16 Try.underlying42 infoStrD rfl (by omega) _ _ rfl rfl w2.heap.size _ j _ rfl Ho9.out #[.string Z] 1 1 rfl rfl (by simp [Value.oneCell']) (by simp [maxLen]; omega) (by omega) hz9 ?_; intro v10 w10 hown10 hg10; have Hb10 := Lib.hid (below_apd Hb9.out Ho9.out hg10 (Nat.le_refl _) hz9); have Ho10 := Lib.hid hown10; clear hown10 hg10)
                go_roundw
                case rel => exact ⟨j + 1, by omega, by go_num, by rw [Hst.out]; exact Ho10.out, Hb10.out⟩
                case measure => simp [intOf]; omega
      · have hnn : n = bn := by omega
        subst hnn
        have hlt' : ¬ (n : Int) < (n : Int) := by omega
        have HO := Lib.hid (ownsRow_le Hown.out hz2)
        rw [HA.out] at HO
        have Hbf := Lib.hid (Hb2.out.trans (Hbl.out.mono hz2))
        obtain ⟨c0, c1, c2, c3⟩ := four_at ((hbl.block _ hlt2).trans HQ2.out)
        clear hown hbl
        go_wp2_with fail
        go_ret2
        exact ⟨_, rfl, by rw [HL.out]; exact HO.out, Hbf.out⟩
end Go.Proofs.Ytdabcpmieiiapaa
/- Drums: what the law needs, plainly. -/
namespace Go.Proofs.Ytdabcpmieiiapaa
open Go.RowKit Go.Joins

theorem codeD_0 {d : Dm} {g : Int} (h : codeD d g = 0) : okDm d = true ∧ 0 ≤ g ∧ g < d.b ∧ d.b ≤ 16 ∧ d.t ≤ 60 ∧ 2 ≤ d.t := by
  unfold codeD at h
  cases hok : okDm d
  · rw [hok] at h
    simp at h
  · rw [hok] at h
    cases hi : inB g 0 (d.b - 1)
    · rw [hi] at h
      simp at h
    · obtain ⟨h1, h2⟩ := inB_bd hi
      obtain ⟨_, b1, b2, b3, b4, _⟩ := okDm_bd hok
      exact ⟨rfl, h1, by omega, b2, b4, by omega⟩
theorem inB_of {n a b : Int} (h1 : a ≤ n) (h2 : n ≤ b) : inB n a b = true := by
  unfold inB
  simp only [Bool.and_eq_true, decide_eq_true_eq]
  exact ⟨h1, h2⟩
theorem nD_0 {d : Dm} {g : Int} (h : codeD d g = 0) : (nD d g : Int) = g := by
  unfold nD
  rw [if_pos h]
  have := (codeD_0 h).2.1
  omega
theorem nD_le (d : Dm) (g : Int) : nD d g ≤ 16 := by
  unfold nD
  split
  · rename_i h
    obtain ⟨_, h1, h2, h3, _⟩ := codeD_0 h
    omega
  · omega
/-- a whole turn; and the times lead back to the digit -/
theorem turn_law {d : Dm} {g : Int} (h : codeD d g = 0) : sbC d g d.t = 0 ∧ sbV d g d.t = g ∧ dfC d (nD d g) (timeD d (nD d g)) = 0 ∧ dfV d (nD d g) (timeD d (nD d g)) = g := by
  obtain ⟨hok, g0, g1, g2, g3, g4⟩ := codeD_0 h
  have hn := nD_0 h
  have h1 : sbC d g d.t = 0 := by
    unfold sbC
    rw [if_pos h, if_pos (inB_of (by omega) (by omega))]
  have h2 : dfC d (nD d g) (timeD d (nD d g)) = 0 := by
    unfold dfC
    rw [if_neg (by rw [hok]; simp), if_pos ⟨by omega, sameF_self _ _⟩]
  refine ⟨h1, ?_, h2, ?_⟩
  · unfold sbV
    rw [if_pos h1, steps_turn hok (by omega)]
    omega
  · unfold dfV
    rw [if_pos h2]
    exact hn
theorem bt_law {d : Dm} {g a b : Int} (h : btC d g a b = 0) : sbC d g a = 0 ∧ sbC d g b = 0 ∧ btV d g a b = sbV d g b - sbV d g a ∧ 0 ≤ sbV d g b - sbV d g a ∧ sbV d g b - sbV d g a ≤ 1600000 := by
  have hv : btV d g a b = if btC d g a b = 0 then stepsD d g.toNat b - stepsD d g.toNat a else 0 := rfl
  rw [if_pos h] at hv
  unfold btC at h
  by_cases hc : codeD d g = 0
  · rw [if_pos hc] at h
    by_cases hi : inB a 0 100000 = true ∧ inB b 0 100000 = true ∧ a ≤ b
    · obtain ⟨i1, i2, i3⟩ := hi
      obtain ⟨hok, g0, g1, _⟩ := codeD_0 hc
      have c1 : sbC d g a = 0 := by unfold sbC; rw [if_pos hc, if_pos i1]
      have c2 : sbC d g b = 0 := by unfold sbC; rw [if_pos hc, if_pos i2]
      have v1 : sbV d g a = stepsD d g.toNat a := by unfold sbV; rw [if_pos c1]
      have v2 : sbV d g b = stepsD d g.toNat b := by unfold sbV; rw [if_pos c2]
      obtain ⟨a0, a1⟩ := inB_bd i1
      obtain ⟨b0, b1⟩ := inB_bd i2
      have hm := steps_mono (d := d) (n := g.toNat) hok a0 i3
      have ha := stepsD_bd (d := d) (n := g.toNat) hok (by omega) a0 a1
      have hb := stepsD_bd (d := d) (n := g.toNat) hok (by omega) b0 b1
      rw [v1, v2]
      exact ⟨c1, c2, hv, by omega, by omega⟩
    · rw [if_neg hi] at h
      omega
  · rw [if_neg hc] at h
    exact absurd h hc
theorem rdNI {w w' : World} {v : Value} {n sz : Nat} {cs : List Value} (h : Rd w w.heap.size v n sz cs) (hb : Below w.heap.size w w') : Rd w' w'.heap.size v n sz cs := (h.below hb).more hb.size
theorem blkI {w w' : World} {q : Nat} {o : Obj} (h : w.heap[q]? = some o) (hb : Below w.heap.size w w') : w'.heap[q]? = some o := (hb.block q (Array.getElem?_eq_some_iff.1 h).1).trans h
theorem below_eqI {w w' : World} {n : Nat} (h : w' = w.drewN n) : Below w.heap.size w w' := by rw [h]; exact below_drewN (Below.refl _ _) n
end Go.Proofs.Ytdabcpmieiiapaa
