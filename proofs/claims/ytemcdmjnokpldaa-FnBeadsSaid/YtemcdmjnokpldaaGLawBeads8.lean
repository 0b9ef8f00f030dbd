/- Merged texts: Bd11, Bd12, Bd13, Bd14, Bd15, Aq5, Bd16, Bd17, Dm14. -/
import Derived.Test.YtemcdmjnokpldaaGLawBeads7
import Derived.Test.YtemcdmjnokpldaaGLawBeads5
import Derived.Test.YtemcdmjnokpldaaGLawBeads4
import Derived.Test.YtemcdmjnokpldaaGLawBeads2
import Derived.Test.YtemcdmjnokpldaaGLawBeads1
/- Beads: AddOnAbacus, spec. -/
namespace Go.Proofs.Ytemcdmjnokpldaa
open Go.RowKit Go.Joins

section
variable {W wx wy : World} {r s g cap n : Nat} {u l w : Int} {vm vd vd' : Value} {cur : List (Int × Int)} {ms : List Mv} {ds ds' : List Int}
/-- the digits have grown -/
theorem AdS.dig (h : AdS W wx r s g cap n u l w cur vm ms vd ds) (hr : wy.ownsRow W.heap.size 2 1 vd' ds'.length (intsC ds')) (hg : wx.grownBy wy vd.ownBlock) : AdS W wy r s g cap n u l w cur vm ms vd' ds' :=
  ⟨(hg.block _ (blk_ltN h.res) (fun e => own_neT h.dg h.res (by decide) e.symm)).trans h.res, (hg.block _ (blk_ltN h.st) (fun e => own_neT h.dg h.st (by decide) e.symm)).trans h.st, h.row.kept hg (own_own h.row h.dg (by decide)), h.mv.kept hg (own_own h.mv h.dg (by decide)), hr, h.bel.grown hg h.bel.size (fun y hy => (h.dg.lt y hy).1), h.len, h.lr, h.ls⟩
/-- another row of digits -/
theorem AdS.redig (h : AdS W wx r s g cap n u l w cur vm ms vd ds) (hr : wx.ownsRow W.heap.size 2 1 vd' ds'.length (intsC ds')) : AdS W wx r s g cap n u l w cur vm ms vd' ds' :=
  { h with dg := hr }
theorem AdS.done (h : AdS W wx r s g cap n u l w cur vm ms vd ds) (a' b' c' d' : Value) :
    cell4 (put4 wx r a' b' c' d') r a' b' c' d' ∧ Below W.heap.size W (put4 wx r a' b' c' d') ∧ (put4 wx r a' b' c' d').ownsRow W.heap.size 98 2 (.slice (some ⟨g, 0, none⟩) n cap) n (rodsC cur) ∧ (put4 wx r a' b' c' d').ownsRow W.heap.size 37 3 vm ms.length (movesC ms) := by
  have hne := own_neT h.mv h.res (by decide)
  have hnr := own_neT h.row h.res (by decide)
  exact ⟨(blk4 (put4_same h.res a' b' c' d')).1, put4_below h.bel h.lr a' b' c' d', ownsRow_setCell_other (ownsRow_setCell_other (ownsRow_setCell_other (ownsRow_setCell_other h.row (a := ⟨r, 0, none⟩) hnr a') (a := ⟨r, 1, none⟩) hnr b') (a := ⟨r, 2, none⟩) hnr c') (a := ⟨r, 3, none⟩) hnr d', ownsRow_setCell_other (ownsRow_setCell_other (ownsRow_setCell_other (ownsRow_setCell_other h.mv (a := ⟨r, 0, none⟩) hne a') (a := ⟨r, 1, none⟩) hne b') (a := ⟨r, 2, none⟩) hne c') (a := ⟨r, 3, none⟩) hne d'⟩
end
theorem own_nilI (w : World) (B : Nat) : w.ownsRow B 2 1 (.slice none 0 0) ([] : List Int).length (intsC []) := ⟨rfl, .inl ⟨rfl, rfl⟩⟩
/-- the struct is laid -/
theorem AdS.start {W wx : World} {p r g cap n : Nat} {u l w : Int} {v vm : Value} {rs : List (Int × Int)} (hx : Bx2 W wx p r (.int .i64 u) (.int .i64 l) (.int .i64 w) v) (ho : wx.ownsRow W.heap.size 98 2 (.slice (some ⟨g, 0, none⟩) n cap) n (rodsC rs)) (hm : wx.ownsRow W.heap.size 37 3 vm 0 (movesC [])) (hl : rs.length = n) : AdS W (wx.alloc (.cells #[.int .i64 u, .int .i64 l, .int .i64 w, .slice (some ⟨g, 0, none⟩) n cap, vm] 105)) r wx.heap.size g cap n u l w rs vm [] (.slice none 0 0) [] := by
  have hb := (Below.refl wx.heap.size wx).alloc (Nat.le_refl _) (.cells #[.int .i64 u, .int .i64 l, .int .i64 w, .slice (some ⟨g, 0, none⟩) n cap, vm] 105)
  have h2 := hx.below hb
  exact ⟨h2.res, heap_alloc_new _ _, own_below ho hb, own_below hm hb, own_nilI _ _, h2.bel, hl, hx.lr, hx.bel.size⟩
set_option maxRecDepth 100000 in
set_option maxHeartbeats 12800000 in
theorem AddS_any (B : Nat) (u l w val : Int) (v : Value) (rs : List (Int × Int)) (W : World) (h : Rd W B v rs.length 2 (rodsC rs)) (hB : B ≤ W.heap.size) (hm : rs.length ≤ 1048576) : Calls Try.prog 10 #[aggAb u l w v, .int .i64 val] W (RetAd W (addV ⟨u, l, w, rs⟩ val)) := by
  have H := Lib.hid h
  obtain ⟨_, A, c, rfl, _⟩ := h
  have hx := Bx2.made W (.int .i64 u) (.int .i64 l) (.int .i64 w) (.slice A rs.length c)
  have HV := Lib.hid (l03Ok_any W.heap.size B u l w (.slice A rs.length c) rs _ hx.at (H.out.below (hx.bel.mono hB)) hm)
  have HX := Lib.hid hx
  have HI := Lib.hid (fun wx => flipC (l00In_any val 0 1000000000000 wx))
  have HP := Lib.hid (fun wx hx hz => IsPlainS_any B u l w (.slice A rs.length c) rs wx hx hz hm)
  clear hx
  cases hok : okAb ⟨u, l, w, rs⟩
  · rw [hok] at HV
    have HR := Lib.hid (addV_inv (v := val) hok)
    clear hok HI HP
    go_enter Try.func10, Try.ntmps10
    go_wp2_with fail
    refine HV.out.mono ?_; rintro e w2 ⟨rfl, n2, hw2⟩
    have HX2 := HX.out.below (below_eqA hw2)
    clear hw2
    obtain ⟨⟨p0, p1, p2, p3⟩, f0, f1, f2, f3⟩ := blk4 HX2.res
    have HD := Lib.hid (HX2.done (.int .i64 0) (.int .i64 0) (.int .i64 0) (.slice none 0 0))
    clear HX2
    go_wp2_with fail
    obtain ⟨⟨k0, k1, k2, k3⟩, hbz⟩ := HD.out
    refine bodyPost_ret (v := .tuple #[aggAb 0 0 0 (.slice none 0 0), .slice none 0 0, .int .i64 1]) (by simp [results, Try.results10, go_sem, k0, k1, k2, k3]) rfl ?_
    exact RetAd.bad HR.out hbz
  rw [hok] at HV
  cases hi : inB val 0 1000000000000
  · have HR := Lib.hid (addV_rng hok hi)
    rw [hi] at HI
    clear hok hi HP
    go_enter Try.func10, Try.ntmps10
    go_wp2_with fail
    refine HV.out.mono ?_; rintro e w2 ⟨rfl, n2, hw2⟩
    have HX2 := HX.out.below (below_eqA hw2)
    clear hw2
    obtain ⟨⟨p0, p1, p2, p3⟩, f0, f1, f2, f3⟩ := blk4 HX2.res
    have HD := Lib.hid (HX2.done (.int .i64 0) (.int .i64 0) (.int .i64 0) (.slice none 0 0))
    clear HX2
    go_wp2_with fail
    refine (HI.out _).mono ?_; rintro e w3 ⟨rfl, rfl⟩
    go_wp2_with fail
    obtain ⟨⟨k0, k1, k2, k3⟩, hbz⟩ := HD.out
    refine bodyPost_ret (v := .tuple #[aggAb 0 0 0 (.slice none 0 0), .slice none 0 0, .int .i64 2]) (by simp [results, Try.results10, go_sem, k0, k1, k2, k3]) rfl ?_
    exact RetAd.bad HR.out hbz
  rw [hi] at HI
  cases hp : isPl ⟨u, l, w, rs⟩
  · have HR := Lib.hid (addV_st hok hi hp)
    rw [hp] at HP
    clear hok hi
    go_enter Try.func10, Try.ntmps10
    go_wp2_with fail
    refine HV.out.mono ?_; rintro e w2 ⟨rfl, n2, hw2⟩
    have HX2 := Lib.hid (HX.out.below (below_eqA hw2))
    have HP2 := Lib.hid (HP.out w2 (H.out.below (HX2.out.bel.mono hB)) (Nat.le_trans hB HX2.out.bel.size))
    clear hw2
    obtain ⟨c0, c1, c2, c3⟩ := (blk4 HX2.out.box).1
    go_wp2_with fail
    refine (HI.out _).mono ?_; rintro e w3 ⟨rfl, rfl⟩
    go_wp2_with fail
    refine HP2.out.mono ?_; rintro e w3 ⟨rfl, hb3⟩
    have HX3 := HX2.out.below hb3
    clear hb3 c0 c1 c2 c3
    obtain ⟨⟨p0, p1, p2, p3⟩, f0, f1, f2, f3⟩ := blk4 HX3.res
    have HD := Lib.hid (HX3.done (.int .i64 0) (.int .i64 0) (.int .i64 0) (.slice none 0 0))
    clear HX3
    go_wp2_with fail
    obtain ⟨⟨k0, k1, k2, k3⟩, hbz⟩ := HD.out
    refine bodyPost_ret (v := .tuple #[aggAb 0 0 0 (.slice none 0 0), .slice none 0 0, .int .i64 6]) (by simp [results, Try.results10, go_sem, k0, k1, k2, k3]) rfl ?_
    exact RetAd.bad HR.out hbz
  rw [hp] at HP
  have HRn := Lib.hid (fun h => addV_full hok hi hp h)
  have HRs := Lib.hid (fun (c : List (Int × Int)) (m : List Mv) h => addV_some (c := c) (m := m) hok hi hp h)
  obtain ⟨v0, v1⟩ := inB_bd hi
  obtain ⟨hk1, _, hk3, hk4⟩ := okAb_and hok
  have hpl := (allPl_of hp).2
  dsimp only at hk3 hk4 hpl HRn HRs
  have Hok := Lib.hid hok
  have Hpl := Lib.hid hpl
  have HW := Lib.hid (fun wx ha hx hz => l03Own_any B W.heap.size rs.length u l w (.slice A rs.length c) (rodsC rs) wx ha hx hz (by omega) (by omega) (rodsC_one rs))
  have HSa := Lib.hid (fun (s g cap : Nat) (vd : Value) (ds : List Int) (k : Nat) (d : Int) (cur : List (Int × Int)) (vm : Value) (ms : List Mv) (wx : World) (h1 : k ≤ 13) (h2 : 0 ≤ d) (h3 : d ≤ 9) (h4 : ms.length ≤ 900) => sadd_any W (W.heap.size + 1) s g cap rs.length u l w vd ds rs hok rfl 10 k d cur vm ms wx (by omega) (by omega) (by omega) h2 h3 (by omega))
  clear hok hi hp hk1 hpl
  go_enter Try.func10, Try.ntmps10
  go_wp2_with fail
  refine HV.out.mono ?_; rintro e w2 ⟨rfl, n2, hw2⟩
  have HX2 := Lib.hid (HX.out.below (below_eqA hw2))
  have HP2 := Lib.hid (HP.out w2 (H.out.below (HX2.out.bel.mono hB)) (Nat.le_trans hB HX2.out.bel.size))
  clear hw2
  obtain ⟨c0, c1, c2, c3⟩ := (blk4 HX2.out.box).1
  go_wp2_with fail
  refine (HI.out _).mono ?_; rintro e w3 ⟨rfl, rfl⟩
  go_wp2_with fail
  refine HP2.out.mono ?_; rintro e w3 ⟨rfl, hb3⟩
  have HX3 := Lib.hid (HX2.out.below hb3)
  clear hb3 c0 c1 c2 c3 HX HX2 HP HP2 HV HI
  have HO1 := Lib.hid (HW.out w3 HX3.out.at (H.out.below (HX3.out.bel.mono hB)) (Nat.le_trans hB HX3.out.bel.size))
  obtain ⟨c0, c1, c2, c3⟩ := (blk4 HX3.out.box).1
  go_upto_region 7 with (fail)
  go_wp2_with fail
  refine HO1.out.mono ?_; rintro e w4 ⟨g, cap, rfl, ho, hb4⟩
  have HX5 := HX3.out.below hb4
  have hbe := (Below.refl w4.heap.size w4).alloc (Nat.le_refl _) (.cells #[] 37)
  have HM5 := World.ownsRow_made (base := W.heap.size) (e := 37) (size := 3) w4 #[] 0 HX5.bel.size (by simp [maxLen]) rfl
  have hAd := AdS.start (HX5.below hbe) (own_below (ownsRow_le ho HX3.out.bel.size) hbe) HM5 rfl
  rw [size_alloc1] at hAd
  have HAd := Lib.hid hAd
  have HSb := Lib.hid (HSa.out (w4.heap.size + 1) g cap)
  clear ho hb4 HX5 hbe HM5 hAd HX3 HW HSa HO1 c0 c1 c2 c3
  go_upto_region 8 with (fail)
  generalize (w4.alloc (.cells #[] 37)).alloc (.cells #[.int .i64 u, .int .i64 l, .int .i64 w, .slice (some ⟨g, 0, none⟩) rs.length cap, .slice (some ⟨w4.heap.size, 0, none⟩) 0 0] 105) = w5 at *
  generalize w4.heap.size + 1 = s at *
  generalize w4.heap.size = qm at *
  have hbd := (Below.refl w5.heap.size w5).alloc (Nat.le_refl _) (.cells #[] 2)
  have HA6 := Lib.hid ((HAd.out.below hbd).redig (ds' := []) (World.ownsRow_made (base := W.heap.size) (e := 2) (size := 1) w5 #[] 0 HAd.out.bel.size (by simp [maxLen]) rfl))
  have HDg := Lib.hid (dg_start v0 v1)
  clear hbd HAd
  go_wp2_with fail
  go_loopw [8, 9] (fun o i wr => ∃ (dl : List Int) (x : Int), i = .int .i64 x ∧ DgI dl x val ∧ AdS W wr (W.heap.size + 1) s g cap rs.length u l w rs (.slice (some ⟨qm, 0, none⟩) 0 0) [] o dl) (fun _ i _ => (intOf i).toNat)
  case atStart => exact ⟨[], val, rfl, HDg.out, HA6.out⟩
  case round =>
    obtain ⟨dl, x, rfl, hdg, hA⟩ := hrel
    have HDg2 := Lib.hid hdg
    obtain ⟨hdl, hx0, hx1⟩ := dg_len hdg
    have HA := Lib.hid hA
    obtain ⟨A7, c7, rfl⟩ := own_sl hA.dg
    clear hdg hA HA6 HDg
    by_cases hxp : 0 < x
    · have HDs := Lib.hid (dg_step HDg2.out hxp)
      have hmd : x.tmod 10 = x % 10 := Int.tmod_eq_emod_of_nonneg hx0
      have hdv : x.tdiv 10 = x / 10 := Int.tdiv_eq_ediv_of_nonneg hx0
      have hw1 : IntKind.i64.wrap (x % 10) = x % 10 := IntWalk.i64_in _ (by omega)
      have hw2 : IntKind.i64.wrap (x / 10) = x / 10 := IntWalk.i64_in _ (by omega)
      have hsz := HA.out.bel.size
      have Hown := Lib.hid HA.out.dg
      go_wp2_with (at_builtin; refine wpList_apd 49 2 _ 1 8 Try.underlying49 infoD rfl (by omega) _ _ rfl rfl W.heap.size _ dl.length _ rfl Hown.out #[.int .i64 (x % 10)] 1 1 rfl rfl (by simp [Value.oneCell']) (by simp [maxLen]; omega) (by omega) hsz ?_; intro v9 w9 hown9 hg9; have HA9 := Lib.hid (HA.out.dig (ds' := dl ++ [x % 10]) (by rw [List.length_append]; show World.ownsRow _ _ _ _ _ _ (List.map _ (dl ++ [x % 10])); rw [List.map_append]; exact hown9) hg9); clear hown9 hg9)
      go_roundw
      case rel => exact ⟨dl ++ [x % 10], x / 10, rfl, HDs.out, HA9.out⟩
      case measure => simp [intOf]; omega
    · have hx2 : x = 0 := by omega
      subst hx2
      have hdd := dg_end HDg2.out (Int.le_refl 0)
      rw [hdd] at HRn HRs
      have hnx : ¬ (0 : Int) < 0 := by omega
      have hds : ∀ d ∈ dl, 0 ≤ d ∧ d ≤ 9 := by rw [← hdd]; exact digs_all 13 val
      have Hds := Lib.hid hds
      have HG := Lib.hid (fun j (hj : j < dl.length) => (show dl.getD j 0 = dl[j] by simp [List.getD, List.getElem?_eq_getElem hj]))
      clear hdd hxp HDg2 hds
      go_wp2_with fail
      go_loopw [10] (fun i wr => ∃ (p : Nat) (cur : List (Int × Int)) (vm : Value) (ms : List Mv), p ≤ dl.length ∧ ms.length ≤ 13 * 11 - 11 * p ∧ i = .int .i64 ((p : Int) - 1) ∧ AdS W wr (W.heap.size + 1) s g cap rs.length u l w cur vm ms (.slice A7 dl.length c7) dl ∧ allPl ⟨u, l, w, rs⟩ cur ∧ addD u w dl dl.length rs [] = addD u w dl p cur ms) (fun i _ => (intOf i + 1).toNat)
      case atStart => exact ⟨dl.length, rs, _, [], Nat.le_refl _, by simp, rfl, HA.out, Hpl.out, rfl⟩
      case round =>
        obtain ⟨p, cur, vm2, ms, hpl', hml, rfl, hA, hal, heq⟩ := hrel
        clear HA
        have HA := Lib.hid hA
        have Hal := Lib.hid hal
        have Heq := Lib.hid heq
        obtain ⟨Am, cm, rfl⟩ := own_sl hA.mv
        clear hA hal heq
        by_cases hp0 : p = 0
        · subst hp0
          have h1 : ¬ (0 : Int) ≤ ((0 : Nat) : Int) - 1 := by omega
          have HR := Lib.hid (HRs.out cur ms Heq.out)
          obtain ⟨⟨q0, q1, q2, q3, q4⟩, _⟩ := five_atB HA.out.st
          obtain ⟨⟨p0, p1, p2, p3⟩, f0, f1, f2, f3⟩ := blk4 HA.out.res
          have hne : s ≠ W.heap.size + 1 := fun e => HA.out.rs e.symm
          have HQ4 := Lib.hid (show ∀ (j : Nat), (put4 wr (W.heap.size + 1) (.int .i64 u) (.int .i64 l) (.int .i64 w) (.slice (some ⟨g, 0, none⟩) rs.length cap)).cell? ⟨s, j, none⟩ = wr.cell? ⟨s, j, none⟩ from fun j => put4_cell hne _ _ _ _)
          have HD := Lib.hid (HA.out.done (.int .i64 u) (.int .i64 l) (.int .i64 w) (.slice (some ⟨g, 0, none⟩) rs.length cap))
          have Hcl := Lib.hid HA.out.len
          clear hne
          go_upto_region 18 with (fail)
          refine wp_region_noPanic ?_
          refine wp_region_L [10,9] (fun w' => cell4 w' s (.int .i64 u) (.int .i64 l) (.int .i64 w) (.slice (some ⟨g, 0, none⟩) rs.length cap) ∧ w'.cell? ⟨s, 4, none⟩ = some (.slice Am ms.length cm)) (by kernel_rfl) (⟨⟨q0, q1, q2, q3⟩, q4⟩) (fun hHeld => ?_)
          refine take_F (i := 0) (d := some 53) (v := ?_) (by kernel_rfl) (by kernel_rfl) rfl rfl (by kernel_rfl) (by kernel_rfl) (by kernel_rfl) (fun _ _ _ h => h) (Or.inl ⟨by rfl, ?_⟩) (by assumption) ?_
          rotate_left
          · (intro w hSw; (try dsimp only at hSw); go_simp; (try rw [if_neg (by omega)]); (try (with_reducible rfl)))
          simp only [Act.put, List.setIfInBounds_toArray, List.set_cons_zero, List.set_cons_succ]
          refine take_F (i := 1) (d := some 54) (v := ?_) (by kernel_rfl) (by kernel_rfl) rfl rfl (by kernel_rfl) (by kernel_rfl) (by kernel_rfl) (fun _ _ _ h => h) (Or.inl ⟨by rfl, ?_⟩) (by assumption) ?_
          rotate_left
          · (intro w hSw; (try dsimp only at hSw); go_simp; (try rw [if_neg (by omega)]); (try (with_reducible rfl)))
          simp only [Act.put, List.setIfInBounds_toArray, List.set_cons_zero, List.set_cons_succ]
          refine take_F (i := 2) (d := some 55) (v := ?_) (by kernel_rfl) (by kernel_rfl) rfl rfl (by kernel_rfl) (by kernel_rfl) (by kernel_rfl) (fun _ _ _ h => h) (Or.inl ⟨by rfl, ?_⟩) (by assumption) ?_
          rotate_left
          · (intro w hSw; (try dsimp only at hSw); go_simp; (try rw [if_neg (by omega)]); (try (with_reducible rfl)))
          simp only [Act.put, List.setIfInBounds_toArray, List.set_cons_zero, List.set_cons_succ]
          refine take_L [3] (i := 3) (d := some 56) (v := ?_) (by kernel_rfl) (by kernel_rfl) (by kernel_rfl) (by kernel_rfl) rfl rfl (by kernel_rfl) (by kernel_rfl) (by kernel_rfl) (fun _ _ _ h => h) (Or.inl ⟨by rfl, ?_⟩) (by assumption) ?_
          rotate_left
          · (intro w hSw; (try dsimp only at hSw); go_simp; (try rw [if_neg (by omega)]); (try (with_reducible rfl)))
          simp only [Act.put, List.setIfInBounds_toArray, List.set_cons_zero, List.set_cons_succ]
          refine take_F (i := 4) (d := some 57) (v := ?_) (by kernel_rfl) (by kernel_rfl) rfl rfl (by kernel_rfl) (by kernel_rfl) (by kernel_rfl) (fun _ _ _ h => h) (Or.inl ⟨by rfl, ?_⟩) (by assumption) ?_
          rotate_left
          · (intro w hSw; (try dsimp only at hSw); go_simp; (try rw [if_neg (by omega)]); (try (with_reducible rfl)))
          simp only [Act.put, List.setIfInBounds_toArray, List.set_cons_zero, List.set_cons_succ]
          refine take_F (i := 5) (d := some 58) (v := ?_) (by kernel_rfl) (by kernel_rfl) rfl rfl (by kernel_rfl) (by kernel_rfl) (by kernel_rfl) (fun _ _ _ h => h) (Or.inl ⟨by rfl, ?_⟩) (by assumption) ?_
          rotate_left
          · (intro w hSw; (try dsimp only at hSw); go_simp; (try rw [if_neg (by omega)]); (try (with_reducible rfl)))
          simp only [Act.put, List.setIfInBounds_toArray, List.set_cons_zero, List.set_cons_succ]
          refine take_F (i := 6) (d := some 59) (v := ?_) (by kernel_rfl) (by kernel_rfl) rfl rfl (by kernel_rfl) (by kernel_rfl) (by kernel_rfl) (fun _ _ _ h => h) (Or.inl ⟨by rfl, ?_⟩) (by assumption) ?_
          rotate_left
          · (intro w hSw; (try dsimp only at hSw); go_simp; (try rw [if_neg (by omega)]); (try (with_reducible rfl)))
          simp only [Act.put, List.setIfInBounds_toArray, List.set_cons_zero, List.set_cons_succ]
          refine take_L [7] (i := 7) (d := some 60) (v := ?_) (by kernel_rfl) (by kernel_rfl) (by kernel_rfl) (by kernel_rfl) rfl rfl (by kernel_rfl) (by kernel_rfl) (by kernel_rfl) (fun _ _ _ h => h) (Or.inl ⟨by rfl, ?_⟩) (by assumption) ?_
          rotate_left
          · (intro w hSw; (try dsimp only at hSw); go_simp; (try rw [if_neg (by omega)]); (try (with_reducible rfl)))
          simp only [Act.put, List.setIfInBounds_toArray, List.set_cons_zero, List.set_cons_succ]
          refine call_L (i := 8) (d := none) rfl rfl (by kernel_rfl) (fun Kq hKq => ?_)
          go_simp
          refine hKq.out _ _ (⟨⟨(HQ4.out 0).trans q0, (HQ4.out 1).trans q1, (HQ4.out 2).trans q2, (HQ4.out 3).trans q3⟩, (HQ4.out 4).trans q4⟩) (fun hHeld => ?_)
          clear hKq Kq
          (try simp only [Act.put, List.setIfInBounds_toArray, List.set_cons_zero, List.set_cons_succ])
          refine late_L (i := 9) (d := (some 5)) (by kernel_rfl) rfl rfl (by kernel_rfl) (fun Kq hKq => ?_)
          go_simp
          refine hKq.out _ _ ?_
          clear hKq Kq
          refine late_L (i := 10) (d := (some 6)) (by kernel_rfl) rfl rfl (by kernel_rfl) (fun Kq hKq => ?_)
          go_simp
          refine hKq.out _ _ ?_
          clear hKq Kq
          refine done_L (by kernel_rfl) ?_ _
          refine NoPanic.normal ?_
          go_wp2_with fail
          obtain ⟨⟨k0, k1, k2, k3⟩, hbz, ho1, ho2⟩ := HD.out
          refine bodyPost_ret (v := .tuple #[aggAb u l w (.slice (some ⟨g, 0, none⟩) rs.length cap), .slice Am ms.length cm, .int .i64 0]) (by simp [results, Try.results10, go_sem, k0, k1, k2, k3]) rfl ?_
          rw [HR.out]
          exact ⟨_, _, rfl, by show World.ownsRow _ _ _ _ _ cur.length _; rw [Hcl.out]; exact ho1, ho2, hbz.drew⟩
        · obtain ⟨j, rfl⟩ : ∃ j : Nat, p = j + 1 := ⟨p - 1, by omega⟩
          have hj : j < dl.length := by omega
          have e1 : ((j + 1 : Nat) : Int) - 1 = (j : Int) := by omega
          rw [e1]
          have h1 : (0 : Int) ≤ (j : Int) := by omega
          have hj2 : (j : Int) < (dl.length : Int) := by omega
          have hwj : IntKind.i64.wrap ((j : Int) - 1) = (j : Int) - 1 := IntWalk.i64_in _ (by omega)
          obtain ⟨gd, cd, hvd⟩ := ownsRow_form HA.out.dg (by omega)
          have hA7 : A7 = some ⟨gd, 0, none⟩ := by injection hvd
          subst hA7
          have hdc := own_int_at HA.out.dg hj
          have hd9 := Hds.out dl[j] (List.getElem_mem hj)
          have HsuN := Lib.hid (fun h => addD_none (u := u) (w := w) (ds := dl) (p := j) (cur := cur) (ms := ms) h)
          have HsuS := Lib.hid (fun (c : List (Int × Int)) (m : List Mv) h => addD_some (u := u) (w := w) (ds := dl) (p := j) (cur := cur) (ms := ms) (c := c) (m := m) h)
          rw [HG.out j hj] at HsuN HsuS
          generalize dl[j] = d at *
          have HC := Lib.hid (HSb.out (.slice (some ⟨gd, 0, none⟩) dl.length c7) dl j d cur _ ms wr (by omega) hd9.1 hd9.2 (by omega) Hal.out HA.out)
          clear e1 hp0 hvd
          go_wp2_with fail
          refine HC.out.mono ?_; rintro e w9 ⟨b, cur', vm', ms', rfl, hA9, hm9, hy9, hn9⟩
          have HA9 := Lib.hid hA9
          clear hA9 HC hdc
          cases b
          · have HR := Lib.hid (HRn.out (by rw [Heq.out]; exact HsuN.out (hn9 rfl)))
            clear hy9 hn9
            obtain ⟨⟨p0, p1, p2, p3⟩, f0, f1, f2, f3⟩ := blk4 HA9.out.res
            have HD := Lib.hid (HA9.out.done (.int .i64 0) (.int .i64 0) (.int .i64 0) (.slice none 0 0))
            go_wp2_with fail
            obtain ⟨⟨k0, k1, k2, k3⟩, hbz, _, _⟩ := HD.out
            refine bodyPost_ret (v := .tuple #[aggAb 0 0 0 (.slice none 0 0), .slice none 0 0, .int .i64 5]) (by simp [results, Try.results10, go_sem, k0, k1, k2, k3]) rfl ?_
            exact RetAd.bad HR.out hbz
          · obtain ⟨hy1, hy2⟩ := hy9 rfl
            have Hfin := Lib.hid (show addD u w dl dl.length rs [] = addD u w dl j cur' ms' by rw [Heq.out]; exact HsuS.out _ _ hy1)
            have Hal9 := Lib.hid hy2
            clear hy1 hy2 hy9 hn9
            go_wp2_with fail
            go_roundw
            case rel => exact ⟨j, cur', vm', ms', by omega, by omega, rfl, HA9.out, Hal9.out, Hfin.out⟩
            case measure => simp [intOf]
end Go.Proofs.Ytemcdmjnokpldaa
/- Beads: DrawAddOnAbacus. -/
namespace Go.Proofs.Ytemcdmjnokpldaa
open Go.RowKit Go.Joins

set_option maxRecDepth 100000 in
set_option maxHeartbeats 3200000 in
theorem drawAO_any (B : Nat) (cv : Value) (bs : List UInt8) (W : World) (h : Rd W B cv bs.length 1 (bs.map byV)) (hB : B ≤ W.heap.size) : Calls Try.prog 8 #[cv] W (RetCs W) := by
  have hb0 := (Below.refl W.heap.size W).alloc (Nat.le_refl _) objZ
  have Hr0 := Lib.hid (heap_alloc_new W (.cells #[.int .i64 0, .int .i64 0, .int .i64 0, .slice none 0 0] 26))
  have HB0 := Lib.hid hb0
  have HF := Lib.hid (l00From_any B cv bs (W.alloc objZ) (h.below (hb0.mono hB)) (Nat.le_trans hB hb0.size))
  have hz0 : W.heap.size < (W.alloc objZ).heap.size := by simp
  obtain ⟨_, A, c, rfl, _⟩ := h
  clear hb0
  go_enter Try.func8, Try.ntmps8
  go_wp2_with fail
  generalize W.alloc objZ = w1 at *
  refine HF.out.mono ?_; rintro e w2 ⟨rfl, hs2, hb2, hl2⟩
  have H2 := Lib.hid hs2
  have Hr2 := Lib.hid ((hb2.block _ (by omega)).trans Hr0.out)
  have HB2 := Lib.hid (HB0.out.trans (hb2.mono HB0.out.size))
  have hsb := hb2.size
  clear hs2 hb2 HF Hr0 HB0
  go_wp2_with fail
  refine (l03Bent_any B _ _ bs w2 H2.out (by omega)).mono ?_; rintro e w3 ⟨⟨u, l, w, rs⟩, v, rfl, _, hl, ho, hs3, hg3⟩
  have hb3 := HB2.out.grown hg3 HB2.out.size (fun x hx => by cases hx; omega)
  have hr3 := (hg3.block _ (blk_ltN Hr2.out) (fun e => by injection e; omega)).trans Hr2.out
  have hba := (Below.refl w3.heap.size w3).alloc (Nat.le_refl _) (.cells #[.int .i64 u, .int .i64 l, .int .i64 w, v] 26)
  have hgz := hg3.size
  obtain ⟨A3, c3, rfl⟩ := own_sl ho
  have HN := Lib.hid (show CdA W (w3.alloc (.cells #[.int .i64 u, .int .i64 l, .int .i64 w, .slice A3 rs.length c3] 26)) B w1.heap.size _ bs w3.heap.size (.int .i64 u) (.int .i64 l) (.int .i64 w) (.slice A3 rs.length c3) rs.length (rodsC rs) from
    ⟨(hba.block _ (blk_ltN hr3)).trans hr3, hs3.below hba, heap_alloc_new w3 _, own_below (ownsRow_le ho (by omega)) hba, by omega, by omega, hb3.trans (hba.mono hb3.size)⟩)
  clear hs3 hg3 hb3 hr3 hba H2 Hr2 HB2 ho
  go_upto_region 3 with (fail)
  generalize w3.heap.size = q at *
  generalize w3.alloc (.cells #[.int .i64 u, .int .i64 l, .int .i64 w, .slice A3 rs.length c3] 26) = w4 at *
  clear hl2 hgz
  obtain ⟨⟨p0, p1, p2, p3⟩, _⟩ := blk4 HN.out.hq
  have HP := Lib.hid (l03DrawValue_any B _ _ bs w4.drew (SrcAt.drew HN.out.src) (by omega))
  refine wp_region_noPanic ?_
  refine wp_region_L [4,3] (fun w' => w'.cell? ⟨q, 0, none⟩ = some (.int .i64 u) ∧ w'.cell? ⟨q, 1, none⟩ = some (.int .i64 l) ∧ w'.cell? ⟨q, 2, none⟩ = some (.int .i64 w) ∧ w'.cell? ⟨q, 3, none⟩ = some (.slice A3 rs.length c3)) (by kernel_rfl) (⟨p0, p1, p2, p3⟩) (fun hHeld => ?_)
  refine take_L [0] (i := 0) (d := some 10) (v := ?_) (by kernel_rfl) (by kernel_rfl) (by kernel_rfl) (by kernel_rfl) rfl rfl (by kernel_rfl) (by kernel_rfl) (by kernel_rfl) (fun _ _ _ h => h) (Or.inl ⟨by rfl, ?_⟩) (by assumption) ?_
  rotate_left
  · (intro w hSw; (try dsimp only at hSw); go_simp; (try rw [if_neg (by omega)]); (try (with_reducible rfl)))
  simp only [Act.put, List.setIfInBounds_toArray, List.set_cons_zero, List.set_cons_succ]
  refine take_F (i := 1) (d := some 11) (v := ?_) (by kernel_rfl) (by kernel_rfl) rfl rfl (by kernel_rfl) (by kernel_rfl) (by kernel_rfl) (fun _ _ _ h => h) (Or.inl ⟨by rfl, ?_⟩) (by assumption) ?_
  rotate_left
  · (intro w hSw; (try dsimp only at hSw); go_simp; (try rw [if_neg (by omega)]); (try (with_reducible rfl)))
  simp only [Act.put, List.setIfInBounds_toArray, List.set_cons_zero, List.set_cons_succ]
  refine call_L (i := 2) (d := (some 12)) rfl rfl (by kernel_rfl) (fun Kq hKq => ?_)
  go_simp
  go_at_call 65
  refine HP.out.mono ?_; rintro e w5 ⟨x, rfl, hs5, hg5⟩
  have HN5 := Lib.hid (HN.out.draw hs5 (grown_undrew hg5))
  obtain ⟨⟨m0, m1, m2, m3⟩, _⟩ := blk4 HN5.out.hq
  obtain ⟨⟨r0, r1, r2, r3⟩, s0, s1, s2, s3⟩ := blk4 HN5.out.hr
  have HD := Lib.hid (doneA HN5.out.hr HN5.out.bel (Nat.le_refl _) HN5.out.row (by have := HN5.out.rg; omega) (.int .i64 u) (.int .i64 l) (.int .i64 w) (.slice A3 rs.length c3))
  clear hs5 hg5 p0 p1 p2 p3 HN HP
  (try go_wp2_with fail)
  refine hKq.out _ _ (⟨m0, m1, m2, m3⟩) (fun hHeld => ?_)
  clear hKq Kq
  (try simp only [Act.put, List.setIfInBounds_toArray, List.set_cons_zero, List.set_cons_succ])
  refine late_L (i := 3) (d := none) (by kernel_rfl) rfl rfl (by kernel_rfl) (fun Kq hKq => ?_)
  go_simp
  refine hKq.out _ _ ?_
  clear hKq Kq
  refine late_L (i := 4) (d := (some 3)) (by kernel_rfl) rfl rfl (by kernel_rfl) (fun Kq hKq => ?_)
  go_simp
  refine hKq.out _ _ ?_
  clear hKq Kq
  refine done_L (by kernel_rfl) ?_ _
  refine NoPanic.normal ?_
  go_wp2_with fail
  obtain ⟨⟨k0, k1, k2, k3⟩, hbz, hoz⟩ := HD.out
  refine bodyPost_ret (v := .tuple #[aggAb u l w (.slice A3 rs.length c3), .int .i64 x]) (by simp [results, Try.results8, go_sem, k0, k1, k2, k3]) rfl ?_
  exact ⟨⟨u, l, w, rs⟩, _, x, rfl, hl, hoz, hbz⟩
end Go.Proofs.Ytemcdmjnokpldaa
/- Beads: a move drawn from the code. -/
namespace Go.Proofs.Ytemcdmjnokpldaa
open Go.RowKit Go.Joins

theorem blk3 {w : World} {g : Nat} {a b c : Value} {t : TypeId} (h : w.heap[g]? = some (.cells #[a, b, c] t (0, 0))) : (w.cell? ⟨g, 0, none⟩ = some a ∧ w.cell? ⟨g, 1, none⟩ = some b ∧ w.cell? ⟨g, 2, none⟩ = some c) ∧ w.frozen? ⟨g, 0, none⟩ = false ∧ w.frozen? ⟨g, 1, none⟩ = false ∧ w.frozen? ⟨g, 2, none⟩ = false := by
  refine ⟨⟨?_, ?_, ?_⟩, frozen_of_row w g 0 _ _ h, frozen_of_row w g 1 _ _ h, frozen_of_row w g 2 _ _ h⟩ <;> (rw [cell_of_row w g _ _ _ _ h]; rfl)
abbrev put3 (w : World) (r : Nat) (a b c : Value) : World := ((w.setCell ⟨r, 0, none⟩ a).setCell ⟨r, 1, none⟩ b).setCell ⟨r, 2, none⟩ c
abbrev objM : Obj := .cells #[.int .i64 0, .int .i64 0, .int .i64 0] 37
/-- a move under way: the result's block r is fresh, the move lies in block q -/
structure NwM (W w : World) (B g k : Nat) (bs : List UInt8) (r q : Nat) (a b c : Value) : Prop where
  lt : g < W.heap.size
  src : SrcAt w B g k bs
  gr : W.grownBy w (some g)
  hr : w.heap[r]? = some (.cells #[.int .i64 0, .int .i64 0, .int .i64 0] 37 (0, 0))
  hq : w.heap[q]? = some (.cells #[a, b, c] 37 (0, 0))
  lr : W.heap.size ≤ r
  rq : r < q
section
variable {W w w' : World} {B g k k' r q : Nat} {bs : List UInt8} {a b c : Value}
theorem NwM.draw (h : NwM W w B g k bs r q a b c) (hs : SrcAt w' B g k' bs) (hg : w.grownBy w' (some g)) : NwM W w' B g k' bs r q a b c :=
  ⟨h.lt, hs, grown_trans h.gr hg, (hg.block _ (blk_ltN h.hr) (fun e => by have := h.lt; have := h.lr; injection e; omega)).trans h.hr, (hg.block q (blk_ltN h.hq) (fun e => by have := h.lt; have := h.lr; have := h.rq; injection e; omega)).trans h.hq, h.lr, h.rq⟩
theorem NwM.set (h : NwM W w B g k bs r q a b c) (i : Nat) (x : Value) {a' b' c' : Value} (hc : (#[a, b, c] : Array Value).setIfInBounds i x = #[a', b', c']) : NwM W (w.setCell ⟨q, i, none⟩ x) B g k bs r q a' b' c' := by
  have h1 := heap_setCell_same w q i _ _ x h.hq
  rw [hc] at h1
  have hg : w.grownBy (w.setCell ⟨q, i, none⟩ x) (some q) := grown_setCell (a := w) (p := ⟨q, i, none⟩) ⟨rfl, rfl, rfl, Nat.le_refl _, fun _ _ _ => rfl⟩ (.inl rfl) x
  have hqW : W.heap.size ≤ q := by have := h.lr; have := h.rq; omega
  exact ⟨h.lt, h.src.grown hg (fun y hy => by cases hy; exact Nat.lt_of_lt_of_le h.lt hqW), grownBy_row h.gr hg (fun y hy => by cases hy; exact hqW), (Below.heap_setCell _ _ _ _ (Nat.ne_of_lt h.rq)).trans h.hr, h1, h.lr, h.rq⟩
theorem NwM.more (h : NwM W w B g k bs r q a b c) (hk : k ≤ k') : NwM W w B g k' bs r q a b c := ⟨h.lt, h.src.more hk, h.gr, h.hr, h.hq, h.lr, h.rq⟩
theorem NwM.done (h : NwM W w B g k bs r q a b c) :
    ((put3 w r a b c).cell? ⟨r, 0, none⟩ = some a ∧ (put3 w r a b c).cell? ⟨r, 1, none⟩ = some b ∧ (put3 w r a b c).cell? ⟨r, 2, none⟩ = some c) ∧
    SrcAt (put3 w r a b c) B g k bs ∧ W.grownBy (put3 w r a b c) (some g) := by
  have g3 := heap_setCell_same _ r 2 _ _ c (heap_setCell_same _ r 1 _ _ b (heap_setCell_same w r 0 _ _ a h.hr))
  have g0 : w.grownBy w (some r) := ⟨rfl, rfl, rfl, Nat.le_refl _, fun _ _ _ => rfl⟩
  have hg : w.grownBy (put3 w r a b c) (some r) := grown_setCell (grown_setCell (grown_setCell g0 (p := ⟨r, 0, none⟩) (.inl rfl) _) (p := ⟨r, 1, none⟩) (.inl rfl) _) (p := ⟨r, 2, none⟩) (.inl rfl) _
  exact ⟨(blk3 g3).1, h.src.grown hg (fun x hx => by cases hx; exact Nat.lt_of_lt_of_le h.lt h.lr), grownBy_row h.gr hg (fun x hx => by cases hx; exact h.lr)⟩
end
/-- a move drawn -/
def RetDm (W : World) (B g k : Nat) (bs : List UInt8) (e : Ending) (w' : World) : Prop := ∃ m : Mv, e = .returned (aggMv m) ∧ SrcAt w' B g k bs ∧ W.grownBy w' (some g)
set_option maxRecDepth 100000 in
set_option maxHeartbeats 3200000 in
theorem l03DrawMove_any (B g k : Nat) (bs : List UInt8) (W : World) (hs : SrcAt W B g k bs) (hk : k < 4611686018427370000) : Calls Try.prog 78 #[.pointer (some ⟨g, 0, none⟩)] W (RetDm W B g (k + 10) bs) := by
  have hlt := hs.lt
  have hb := (Below.refl W.heap.size W).alloc (Nat.le_refl _) objM
  have H1 := Lib.hid (hs.below hb)
  have G1 := Lib.hid (grown_of_below hb (some g))
  have R1 := Lib.hid (heap_alloc_new W (.cells #[.int .i64 0, .int .i64 0, .int .i64 0] 37))
  have hz1 := hb.size
  clear hb hs
  go_enter Try.func78, Try.ntmps78
  go_upto_region 1 with (fail)
  generalize W.alloc objM = w1 at *
  go_wp2_with fail
  refine (pick_any B g _ bs 4 w1 H1.out (by omega)).mono ?_; rintro e w2 ⟨x, rfl, _, hs2, hg2⟩
  have H2 := Lib.hid hs2
  have G2 := Lib.hid (grown_trans G1.out hg2)
  have R2 := Lib.hid ((hg2.block _ (blk_ltN R1.out) (fun e => by injection e; omega)).trans R1.out)
  clear hs2 hg2 H1 G1 R1 hz1
  go_wp2_with fail
  refine (pick_any B g _ bs 3 w2 H2.out (by omega)).mono ?_; rintro e w3 ⟨y, rfl, ⟨y0, y1, _⟩, hs3, hg3⟩
  have y2 := y1 (by omega)
  have hwy : IntKind.i64.wrap (y - 1) = y - 1 := IntWalk.i64_in _ (by omega)
  have hr3 := (hg3.block _ (blk_ltN R2.out) (fun e => by injection e; omega)).trans R2.out
  have hba := (Below.refl w3.heap.size w3).alloc (Nat.le_refl _) (.cells #[.int .i64 x, .int .i64 (y - 1), .int .i64 0] 37)
  have HN := Lib.hid (show NwM W (w3.alloc (.cells #[.int .i64 x, .int .i64 (y - 1), .int .i64 0] 37)) B g _ bs W.heap.size w3.heap.size (.int .i64 x) (.int .i64 (y - 1)) (.int .i64 0) from
    ⟨hlt, hs3.below hba, grown_below (grown_trans G2.out hg3) hba, (hba.block _ (blk_ltN hr3)).trans hr3, heap_alloc_new w3 _, Nat.le_refl _, blk_ltN hr3⟩)
  clear hs3 hg3 hr3 hba H2 G2 R2 y1
  go_upto_region 2 with (fail)
  generalize w3.alloc (.cells #[.int .i64 x, .int .i64 (y - 1), .int .i64 0] 37) = w4 at *
  generalize w3.heap.size = q at *
  go_wp2_with fail
  refine (pick_any B g _ bs 7 w4 HN.out.src (by omega)).mono ?_; rintro e w5 ⟨z, rfl, ⟨z0, z1, _⟩, hs5, hg5⟩
  have z2 := z1 (by omega)
  have hwz : IntKind.i64.wrap (z - 3) = z - 3 := IntWalk.i64_in _ (by omega)
  have HN5 := Lib.hid (HN.out.draw hs5 hg5)
  obtain ⟨⟨q0, q1, q2⟩, f0, f1, f2⟩ := blk3 HN5.out.hq
  have HN6 := Lib.hid (HN5.out.set 2 (.int .i64 (z - 3)) rfl)
  clear hs5 hg5 HN z1
  go_upto_region 3 with (fail)
  generalize w5.setCell ⟨q, 2, none⟩ (.int .i64 (z - 3)) = w6 at *
  clear HN5 q0 q1 q2 f0 f1 f2
  go_wp2_with fail
  refine (pick_any B g _ bs 16 w6 HN6.out.src (by omega)).mono ?_; rintro e w7 ⟨n, rfl, ⟨n0, n1, _⟩, hs7, hg7⟩
  have HN7 := Lib.hid (HN6.out.draw hs7 hg7)
  clear hs7 hg7 HN6 n1
  obtain ⟨⟨q0, q1, q2⟩, f0, f1, f2⟩ := blk3 HN7.out.hq
  by_cases e0 : n = 0
  · subst e0
    go_wp2_with fail
    refine (among_in B g _ 3 [-1, 9, 9223372036854775807] bs w7 HN7.out.src (by omega) rfl (by omega) (by omega)).mono ?_; rintro e w8 ⟨t, _, rfl, hs8, hg8⟩
    have HN8 := Lib.hid (HN7.out.draw hs8 hg8)
    clear hs8 hg8 q0 q1 q2 f0 f1 f2
    obtain ⟨⟨q0, q1, q2⟩, f0, f1, f2⟩ := blk3 HN8.out.hq
    have HN9 := Lib.hid (HN8.out.set 0 (.int .i64 t) rfl)
    go_upto_region 10 with (fail)
    generalize w8.setCell ⟨q, 0, none⟩ (.int .i64 t) = w9 at *
    clear q0 q1 q2 f0 f1 f2 HN7 HN8
    obtain ⟨⟨p0, p1, p2⟩, d0, d1, d2⟩ := blk3 HN9.out.hr
    obtain ⟨⟨q0, q1, q2⟩, f0, f1, f2⟩ := blk3 HN9.out.hq
    have HD := Lib.hid (HN9.out.more (k' := k + 10) (by omega)).done
    go_wp2_with fail
    obtain ⟨⟨k0, k1, k2⟩, hsz, hgz⟩ := HD.out
    refine bodyPost_ret (v := aggMv (t, y - 1, z - 3)) (by simp [results, Try.results78, go_sem, k0, k1, k2]) rfl ?_
    exact ⟨_, rfl, hsz, hgz⟩
  have b0 : (n == 0) = false := by simpa using e0
  by_cases e1 : n = 1
  · subst e1
    go_wp2_with fail
    refine (among_in B g _ 4 [-5, 4, 5, 9223372036854775807] bs w7 HN7.out.src (by omega) rfl (by omega) (by omega)).mono ?_; rintro e w8 ⟨t, _, rfl, hs8, hg8⟩
    have HN8 := Lib.hid (HN7.out.draw hs8 hg8)
    clear hs8 hg8 q0 q1 q2 f0 f1 f2
    obtain ⟨⟨q0, q1, q2⟩, f0, f1, f2⟩ := blk3 HN8.out.hq
    have HN9 := Lib.hid (HN8.out.set 1 (.int .i64 t) rfl)
    go_upto_region 10 with (fail)
    generalize w8.setCell ⟨q, 1, none⟩ (.int .i64 t) = w9 at *
    clear q0 q1 q2 f0 f1 f2 HN7 HN8
    obtain ⟨⟨p0, p1, p2⟩, d0, d1, d2⟩ := blk3 HN9.out.hr
    obtain ⟨⟨q0, q1, q2⟩, f0, f1, f2⟩ := blk3 HN9.out.hq
    have HD := Lib.hid (HN9.out.more (k' := k + 10) (by omega)).done
    go_wp2_with fail
    obtain ⟨⟨k0, k1, k2⟩, hsz, hgz⟩ := HD.out
    refine bodyPost_ret (v := aggMv (x, t, z - 3)) (by simp [results, Try.results78, go_sem, k0, k1, k2]) rfl ?_
    exact ⟨_, rfl, hsz, hgz⟩
  have b1 : (n == 1) = false := by simpa using e1
  by_cases e2 : n = 2
  · subst e2
    go_wp2_with fail
    refine (among_in B g _ 4 [-13, 12, 13, -9223372036854775808] bs w7 HN7.out.src (by omega) rfl (by omega) (by omega)).mono ?_; rintro e w8 ⟨t, _, rfl, hs8, hg8⟩
    have HN8 := Lib.hid (HN7.out.draw hs8 hg8)
    clear hs8 hg8 q0 q1 q2 f0 f1 f2
    obtain ⟨⟨q0, q1, q2⟩, f0, f1, f2⟩ := blk3 HN8.out.hq
    have HN9 := Lib.hid (HN8.out.set 2 (.int .i64 t) rfl)
    go_upto_region 10 with (fail)
    generalize w8.setCell ⟨q, 2, none⟩ (.int .i64 t) = w9 at *
    clear q0 q1 q2 f0 f1 f2 HN7 HN8
    obtain ⟨⟨p0, p1, p2⟩, d0, d1, d2⟩ := blk3 HN9.out.hr
    obtain ⟨⟨q0, q1, q2⟩, f0, f1, f2⟩ := blk3 HN9.out.hq
    have HD := Lib.hid (HN9.out.more (k' := k + 10) (by omega)).done
    go_wp2_with fail
    obtain ⟨⟨k0, k1, k2⟩, hsz, hgz⟩ := HD.out
    refine bodyPost_ret (v := aggMv (x, y - 1, t)) (by simp [results, Try.results78, go_sem, k0, k1, k2]) rfl ?_
    exact ⟨_, rfl, hsz, hgz⟩
  have b2 : (n == 2) = false := by simpa using e2
  clear q0 q1 q2 f0 f1 f2
  obtain ⟨⟨p0, p1, p2⟩, d0, d1, d2⟩ := blk3 HN7.out.hr
  obtain ⟨⟨q0, q1, q2⟩, f0, f1, f2⟩ := blk3 HN7.out.hq
  have HD := Lib.hid (HN7.out.more (k' := k + 10) (by omega)).done
  go_wp2_with fail
  obtain ⟨⟨k0, k1, k2⟩, hsz, hgz⟩ := HD.out
  refine bodyPost_ret (v := aggMv (x, y - 1, z - 3)) (by simp [results, Try.results78, go_sem, k0, k1, k2]) rfl ?_
  exact ⟨_, rfl, hsz, hgz⟩
end Go.Proofs.Ytemcdmjnokpldaa
/- Beads: DrawMoveBeads. -/
namespace Go.Proofs.Ytemcdmjnokpldaa
open Go.RowKit Go.Joins

/-- an abacus and a move drawn from the code -/
def RetCm (W : World) (e : Ending) (w' : World) : Prop := ∃ (a : Ab) (v : Value) (m : Mv), e = .returned (.tuple #[aggAb a.u a.l a.w v, aggMv m]) ∧ a.rods.length ≤ 11 ∧ Rd w' w'.heap.size v a.rods.length 2 (rodsC a.rods) ∧ Below W.heap.size W w'
/-- a move is written to a block of its own -/
theorem doneM {W w : World} {rm r base n : Nat} {v a b c d : Value} {cs : List Value} (hr : w.heap[r]? = some (.cells #[a, b, c, d] 26 (0, 0))) (hm : w.heap[rm]? = some (.cells #[.int .i64 0, .int .i64 0, .int .i64 0] 37 (0, 0))) (hb : Below W.heap.size W w) (lr : W.heap.size ≤ rm) (ne : r ≠ rm) (ho : w.ownsRow base 98 2 v n cs) (x y z : Value) :
    cell4 (put3 w rm x y z) r a b c d ∧ ((put3 w rm x y z).cell? ⟨rm, 0, none⟩ = some x ∧ (put3 w rm x y z).cell? ⟨rm, 1, none⟩ = some y ∧ (put3 w rm x y z).cell? ⟨rm, 2, none⟩ = some z) ∧ Below W.heap.size W (put3 w rm x y z) ∧ Rd (put3 w rm x y z) (put3 w rm x y z).heap.size v n 2 cs := by
  have g3 := heap_setCell_same _ rm 2 _ _ z (heap_setCell_same _ rm 1 _ _ y (heap_setCell_same w rm 0 _ _ x hm))
  have hne := own_neT ho hm (by decide)
  exact ⟨(blk4 (blk_setOther (blk_setOther (blk_setOther hr ne x) ne y) ne z)).1, (blk3 g3).1, ((hb.setCell (p := ⟨rm, 0, none⟩) lr x).setCell (p := ⟨rm, 1, none⟩) lr y).setCell (p := ⟨rm, 2, none⟩) lr z,
    Rd.of_own (ownsRow_setCell_other (ownsRow_setCell_other (ownsRow_setCell_other ho (a := ⟨rm, 0, none⟩) hne x) (a := ⟨rm, 1, none⟩) hne y) (a := ⟨rm, 2, none⟩) hne z)⟩
set_option maxRecDepth 100000 in
set_option maxHeartbeats 3200000 in
theorem drawMB_any (B : Nat) (cv : Value) (bs : List UInt8) (W : World) (h : Rd W B cv bs.length 1 (bs.map byV)) (hB : B ≤ W.heap.size) : Calls Try.prog 14 #[cv] W (RetCm W) := by
  obtain ⟨h1, h2, h3⟩ := two_blocks W #[.int .i64 0, .int .i64 0, .int .i64 0, .slice none 0 0] #[.int .i64 0, .int .i64 0, .int .i64 0] 26 37
  have R1 := Lib.hid h1
  have R2 := Lib.hid h2
  have HB0 := Lib.hid h3
  have HF := Lib.hid (l00From_any B cv bs ((W.alloc objZ).alloc objM) (h.below (h3.mono hB)) (Nat.le_trans hB h3.size))
  have hz0 : W.heap.size + 1 < ((W.alloc objZ).alloc objM).heap.size := by simp
  obtain ⟨_, A, c, rfl, _⟩ := h
  clear h1 h2 h3
  go_enter Try.func14, Try.ntmps14
  go_wp2_with fail
  generalize (W.alloc objZ).alloc objM = w1 at *
  refine HF.out.mono ?_; rintro e w2 ⟨rfl, hs2, hb2, hl2⟩
  have H2 := Lib.hid hs2
  have hsb := hb2.size
  have R12 := Lib.hid ((hb2.block _ (by omega)).trans R1.out)
  have R22 := Lib.hid ((hb2.block _ (by omega)).trans R2.out)
  have HB2 := Lib.hid (HB0.out.trans (hb2.mono HB0.out.size))
  clear hs2 hb2 HF R1 R2 HB0
  go_wp2_with fail
  refine (l03Bent_any B _ _ bs w2 H2.out (by omega)).mono ?_; rintro e w3 ⟨⟨u, l, w, rs⟩, v, rfl, _, hl, ho, hs3, hg3⟩
  have hb3 := HB2.out.grown hg3 HB2.out.size (fun x hx => by cases hx; omega)
  have r13 := (hg3.block _ (blk_ltN R12.out) (fun e => by injection e; omega)).trans R12.out
  have r23 := (hg3.block _ (blk_ltN R22.out) (fun e => by injection e; omega)).trans R22.out
  have hba := (Below.refl w3.heap.size w3).alloc (Nat.le_refl _) (.cells #[.int .i64 u, .int .i64 l, .int .i64 w, v] 26)
  have hgz := hg3.size
  obtain ⟨A3, c3, rfl⟩ := own_sl ho
  have HN := Lib.hid (show CdA W (w3.alloc (.cells #[.int .i64 u, .int .i64 l, .int .i64 w, .slice A3 rs.length c3] 26)) B w1.heap.size _ bs w3.heap.size (.int .i64 u) (.int .i64 l) (.int .i64 w) (.slice A3 rs.length c3) rs.length (rodsC rs) from
    ⟨(hba.block _ (blk_ltN r13)).trans r13, hs3.below hba, heap_alloc_new w3 _, own_below (ownsRow_le ho (by omega)) hba, by omega, by omega, hb3.trans (hba.mono hb3.size)⟩)
  have HM := Lib.hid ((hba.block _ (blk_ltN r23)).trans r23)
  clear hs3 hg3 hb3 r13 r23 hba H2 R12 R22 HB2 ho
  go_upto_region 3 with (fail)
  generalize w3.heap.size = q at *
  generalize w3.alloc (.cells #[.int .i64 u, .int .i64 l, .int .i64 w, .slice A3 rs.length c3] 26) = w4 at *
  clear hl2 hgz
  obtain ⟨⟨p0, p1, p2, p3⟩, _⟩ := blk4 HN.out.hq
  have HP := Lib.hid (l03DrawMove_any B _ _ bs w4.drew (SrcAt.drew HN.out.src) (by omega))
  refine wp_region_noPanic ?_
  refine wp_region_L [4] (fun w' => w'.cell? ⟨q, 0, none⟩ = some (.int .i64 u) ∧ w'.cell? ⟨q, 1, none⟩ = some (.int .i64 l) ∧ w'.cell? ⟨q, 2, none⟩ = some (.int .i64 w) ∧ w'.cell? ⟨q, 3, none⟩ = some (.slice A3 rs.length c3)) (by kernel_rfl) (⟨p0, p1, p2, p3⟩) (fun hHeld => ?_)
  refine take_L [0] (i := 0) (d := some 10) (v := ?_) (by kernel_rfl) (by kernel_rfl) (by kernel_rfl) (by kernel_rfl) rfl rfl (by kernel_rfl) (by kernel_rfl) (by kernel_rfl) (fun _ _ _ h => h) (Or.inl ⟨by rfl, ?_⟩) (by assumption) ?_
  rotate_left
  · (intro w hSw; (try dsimp only at hSw); go_simp; (try rw [if_neg (by omega)]); (try (with_reducible rfl)))
  simp only [Act.put, List.setIfInBounds_toArray, List.set_cons_zero, List.set_cons_succ]
  refine take_F (i := 1) (d := some 11) (v := ?_) (by kernel_rfl) (by kernel_rfl) rfl rfl (by kernel_rfl) (by kernel_rfl) (by kernel_rfl) (fun _ _ _ h => h) (Or.inl ⟨by rfl, ?_⟩) (by assumption) ?_
  rotate_left
  · (intro w hSw; (try dsimp only at hSw); go_simp; (try rw [if_neg (by omega)]); (try (with_reducible rfl)))
  simp only [Act.put, List.setIfInBounds_toArray, List.set_cons_zero, List.set_cons_succ]
  refine call_L (i := 2) (d := (some 12)) rfl rfl (by kernel_rfl) (fun Kq hKq => ?_)
  go_simp
  go_at_call 78
  refine HP.out.mono ?_; rintro e w5 ⟨⟨x, y, z⟩, rfl, hs5, hg5⟩
  have HN5 := Lib.hid (HN.out.draw hs5 (grown_undrew hg5))
  have M5 := Lib.hid (((grown_undrew hg5).block _ (blk_ltN HM.out) (fun e => by injection e; omega)).trans HM.out)
  obtain ⟨⟨m0, m1, m2, m3⟩, _⟩ := blk4 HN5.out.hq
  obtain ⟨⟨r0, r1, r2, r3⟩, s0, s1, s2, s3⟩ := blk4 HN5.out.hr
  have hrg := HN5.out.rg
  have HO6 := Lib.hid (put4_own HN5.out.row (show W.heap.size < w1.heap.size + 1 by omega) (.int .i64 u) (.int .i64 l) (.int .i64 w) (.slice A3 rs.length c3))
  have HR6 := Lib.hid (put4_same HN5.out.hr (.int .i64 u) (.int .i64 l) (.int .i64 w) (.slice A3 rs.length c3))
  have HM6 := Lib.hid (put4_heap M5.out (show W.heap.size + 1 ≠ W.heap.size by omega) (.int .i64 u) (.int .i64 l) (.int .i64 w) (.slice A3 rs.length c3))
  have HB6 := Lib.hid (put4_below HN5.out.bel (Nat.le_refl W.heap.size) (.int .i64 u) (.int .i64 l) (.int .i64 w) (.slice A3 rs.length c3))
  clear hs5 hg5 p0 p1 p2 p3 HN HP HM
  (try go_wp2_with fail)
  refine hKq.out _ _ (⟨m0, m1, m2, m3⟩) (fun hHeld => ?_)
  clear hKq Kq
  (try simp only [Act.put, List.setIfInBounds_toArray, List.set_cons_zero, List.set_cons_succ])
  refine call_L (i := 3) (d := none) rfl rfl (by kernel_rfl) (fun Kq hKq => ?_)
  go_simp
  have hqr : q ≠ W.heap.size := by have := HN5.out.gq; omega
  have m6 := (blk4 (put4_heap HN5.out.hq hqr (.int .i64 u) (.int .i64 l) (.int .i64 w) (.slice A3 rs.length c3))).1
  clear m0 m1 m2 m3 r0 r1 r2 r3 s0 s1 s2 s3 HN5 M5
  unfold put4 at HO6 HR6 HM6 HB6 m6
  generalize (((w5.setCell ⟨W.heap.size, 0, none⟩ (.int .i64 u)).setCell ⟨W.heap.size, 1, none⟩ (.int .i64 l)).setCell ⟨W.heap.size, 2, none⟩ (.int .i64 w)).setCell ⟨W.heap.size, 3, none⟩ (.slice A3 rs.length c3) = w6 at *
  obtain ⟨⟨t0, t1, t2⟩, y0, y1, y2⟩ := blk3 HM6.out
  have HD := Lib.hid (doneM HR6.out HM6.out HB6.out (Nat.le_succ W.heap.size) (Nat.ne_of_lt (Nat.lt_succ_self W.heap.size)) HO6.out (.int .i64 x) (.int .i64 y) (.int .i64 z))
  clear HR6 HM6 HB6 HO6 hrg
  refine hKq.out _ _ (m6) (fun hHeld => ?_)
  clear hKq Kq
  (try simp only [Act.put, List.setIfInBounds_toArray, List.set_cons_zero, List.set_cons_succ])
  clear m6
  refine late_L (i := 4) (d := none) (by kernel_rfl) rfl rfl (by kernel_rfl) (fun Kq hKq => ?_)
  go_simp
  refine hKq.out _ _ ?_
  clear hKq Kq
  refine done_L (by kernel_rfl) ?_ _
  refine NoPanic.normal ?_
  go_wp2_with fail
  obtain ⟨⟨k0, k1, k2, k3⟩, ⟨j0, j1, j2⟩, hbz, hoz⟩ := HD.out
  refine bodyPost_ret (v := .tuple #[aggAb u l w (.slice A3 rs.length c3), aggMv (x, y, z)]) (by simp [results, Try.results14, go_sem, k0, k1, k2, k3, j0, j1, j2]) rfl ?_
  exact ⟨⟨u, l, w, rs⟩, _, (x, y, z), rfl, hl, hoz, hbz⟩
end Go.Proofs.Ytemcdmjnokpldaa
/- Beads: DrawBeadsBetween. -/
namespace Go.Proofs.Ytemcdmjnokpldaa
open Go.RowKit Go.Joins

/-- a draw of two abaci under way -/
structure CdB (W wx : World) (B g k : Nat) (bs : List UInt8) (q : Nat) (a b c v : Value) (n : Nat) (cs : List Value) : Prop where
  c : CdA W wx B g k bs q a b c v n cs
  m : wx.heap[W.heap.size + 1]? = some (.cells #[.int .i64 0, .int .i64 0, .int .i64 0, .slice none 0 0] 26 (0, 0))
  mg : W.heap.size + 1 < g
section
variable {W wx wy : World} {B g k k' q n : Nat} {bs : List UInt8} {a b c v : Value} {cs : List Value}
theorem CdB.draw (h : CdB W wx B g k bs q a b c v n cs) (hs : SrcAt wy B g k' bs) (hg : wx.grownBy wy (some g)) : CdB W wy B g k' bs q a b c v n cs :=
  ⟨h.c.draw hs hg, (hg.block _ (blk_ltN h.m) (fun e => by have := h.mg; injection e; omega)).trans h.m, h.mg⟩
theorem CdB.below (h : CdB W wx B g k bs q a b c v n cs) (hb : Below wx.heap.size wx wy) : CdB W wy B g k bs q a b c v n cs :=
  ⟨⟨(hb.block _ (blk_ltN h.c.hr)).trans h.c.hr, h.c.src.below hb, (hb.block _ (blk_ltN h.c.hq)).trans h.c.hq, own_below h.c.row hb, h.c.rg, h.c.gq, h.c.bel.trans (hb.mono h.c.bel.size)⟩, (hb.block _ (blk_ltN h.m)).trans h.m, h.mg⟩
end
/-- the second abacus is written -/
theorem doneB {W w : World} {rm r base base' n n' : Nat} {v v' a b c d : Value} {cs cs' : List Value} (hr : w.heap[r]? = some (.cells #[a, b, c, d] 26 (0, 0))) (hm : w.heap[rm]? = some (.cells #[.int .i64 0, .int .i64 0, .int .i64 0, .slice none 0 0] 26 (0, 0))) (hb : Below W.heap.size W w) (lr : W.heap.size ≤ rm) (ne : r ≠ rm) (ho : w.ownsRow base 98 2 v n cs) (ho' : w.ownsRow base' 98 2 v' n' cs') (x y z t : Value) :
    cell4 (put4 w rm x y z t) r a b c d ∧ cell4 (put4 w rm x y z t) rm x y z t ∧ Below W.heap.size W (put4 w rm x y z t) ∧ Rd (put4 w rm x y z t) (put4 w rm x y z t).heap.size v n 2 cs ∧ Rd (put4 w rm x y z t) (put4 w rm x y z t).heap.size v' n' 2 cs' := by
  have hne := own_neT ho hm (by decide)
  have hne' := own_neT ho' hm (by decide)
  exact ⟨(blk4 (put4_heap hr ne x y z t)).1, (blk4 (put4_same hm x y z t)).1, put4_below hb lr x y z t,
    Rd.of_own (ownsRow_setCell_other (ownsRow_setCell_other (ownsRow_setCell_other (ownsRow_setCell_other ho (a := ⟨rm, 0, none⟩) hne x) (a := ⟨rm, 1, none⟩) hne y) (a := ⟨rm, 2, none⟩) hne z) (a := ⟨rm, 3, none⟩) hne t),
    Rd.of_own (ownsRow_setCell_other (ownsRow_setCell_other (ownsRow_setCell_other (ownsRow_setCell_other ho' (a := ⟨rm, 0, none⟩) hne' x) (a := ⟨rm, 1, none⟩) hne' y) (a := ⟨rm, 2, none⟩) hne' z) (a := ⟨rm, 3, none⟩) hne' t)⟩
set_option maxRecDepth 100000 in
set_option maxHeartbeats 6400000 in
theorem drawBB_any (B : Nat) (cv : Value) (bs : List UInt8) (W : World) (h : Rd W B cv bs.length 1 (bs.map byV)) (hB : B ≤ W.heap.size) : Calls Try.prog 17 #[cv] W (RetC2 W) := by
  obtain ⟨h1, h2, h3⟩ := two_blocks W #[.int .i64 0, .int .i64 0, .int .i64 0, .slice none 0 0] #[.int .i64 0, .int .i64 0, .int .i64 0, .slice none 0 0] 26 26
  have R1 := Lib.hid h1
  have R2 := Lib.hid h2
  have HB0 := Lib.hid h3
  have HF := Lib.hid (l00From_any B cv bs ((W.alloc objZ).alloc objZ) (h.below (h3.mono hB)) (Nat.le_trans hB h3.size))
  have hz0 : W.heap.size + 1 < ((W.alloc objZ).alloc objZ).heap.size := by simp
  obtain ⟨_, A, c, rfl, _⟩ := h
  clear h1 h2 h3
  go_enter Try.func17, Try.ntmps17
  go_wp2_with fail
  generalize (W.alloc objZ).alloc objZ = w1 at *
  refine HF.out.mono ?_; rintro e w2 ⟨rfl, hs2, hb2, hl2⟩
  have H2 := Lib.hid hs2
  have hsb := hb2.size
  have R12 := Lib.hid ((hb2.block _ (by omega)).trans R1.out)
  have R22 := Lib.hid ((hb2.block _ (by omega)).trans R2.out)
  have HB2 := Lib.hid (HB0.out.trans (hb2.mono HB0.out.size))
  clear hs2 hb2 HF R1 R2 HB0
  go_wp2_with fail
  refine (l03Bent_any B _ _ bs w2 H2.out (by omega)).mono ?_; rintro e w3 ⟨⟨u, l, w, rs⟩, v, rfl, _, hl, ho, hs3, hg3⟩
  have hb3 := HB2.out.grown hg3 HB2.out.size (fun x hx => by cases hx; omega)
  have r13 := (hg3.block _ (blk_ltN R12.out) (fun e => by injection e; omega)).trans R12.out
  have r23 := (hg3.block _ (blk_ltN R22.out) (fun e => by injection e; omega)).trans R22.out
  have hba := (Below.refl w3.heap.size w3).alloc (Nat.le_refl _) (.cells #[.int .i64 u, .int .i64 l, .int .i64 w, v] 26)
  have hgz := hg3.size
  obtain ⟨A3, c3, rfl⟩ := own_sl ho
  have HN := Lib.hid (show CdB W (w3.alloc (.cells #[.int .i64 u, .int .i64 l, .int .i64 w, .slice A3 rs.length c3] 26)) B w1.heap.size _ bs w3.heap.size (.int .i64 u) (.int .i64 l) (.int .i64 w) (.slice A3 rs.length c3) rs.length (rodsC rs) from
    ⟨⟨(hba.block _ (blk_ltN r13)).trans r13, hs3.below hba, heap_alloc_new w3 _, own_below (ownsRow_le ho (by omega)) hba, by omega, by omega, hb3.trans (hba.mono hb3.size)⟩, (hba.block _ (blk_ltN r23)).trans r23, by omega⟩)
  clear hs3 hg3 hb3 r13 r23 hba H2 R12 R22 HB2 ho
  go_upto_region 3 with (fail)
  generalize w3.heap.size = q at *
  generalize w3.alloc (.cells #[.int .i64 u, .int .i64 l, .int .i64 w, .slice A3 rs.length c3] 26) = w4 at *
  clear hl2 hgz
  have HK := Lib.hid (l03Ok_any q w4.heap.size u l w (.slice A3 rs.length c3) rs w4 (AbAt.of HN.out.c.hq) (Rd.of_own HN.out.c.row) (by have : rs.length ≤ 11 := hl; omega))
  have HSt := Lib.hid (fun val hok h0 h1 wx ha hx => l03Set_any wx.heap.size q u l w val (.slice A3 rs.length c3) rs wx ha hx (Nat.le_refl _) hok h0 h1)
  have hrl : rs.length ≤ 11 := hl
  clear hl
  cases hok : okAb ⟨u, l, w, rs⟩
  · rw [hok] at HK
    clear hok
    go_wp2_with fail
    refine HK.out.mono ?_; rintro e w5 ⟨rfl, n5, hw5⟩
    have HX := Lib.hid (HN.out.below (below_eqA hw5))
    clear hw5 HN
    go_upto_region 6 with (fail)
    obtain ⟨⟨p0, p1, p2, p3⟩, _⟩ := blk4 HX.out.c.hq
    have HP := Lib.hid (l03Bent_any B _ _ bs w5.drew (SrcAt.drew HX.out.c.src) (by omega))
    refine wp_region_noPanic ?_
    refine wp_region_L [4] (fun w' => w'.cell? ⟨q, 0, none⟩ = some (.int .i64 u) ∧ w'.cell? ⟨q, 1, none⟩ = some (.int .i64 l) ∧ w'.cell? ⟨q, 2, none⟩ = some (.int .i64 w) ∧ w'.cell? ⟨q, 3, none⟩ = some (.slice A3 rs.length c3)) (by kernel_rfl) (⟨p0, p1, p2, p3⟩) (fun hHeld => ?_)
    refine take_L [0] (i := 0) (d := some 26) (v := ?_) (by kernel_rfl) (by kernel_rfl) (by kernel_rfl) (by kernel_rfl) rfl rfl (by kernel_rfl) (by kernel_rfl) (by kernel_rfl) (fun _ _ _ h => h) (Or.inl ⟨by rfl, ?_⟩) (by assumption) ?_
    rotate_left
    · (intro w hSw; (try dsimp only at hSw); go_simp; (try rw [if_neg (by omega)]); (try (with_reducible rfl)))
    simp only [Act.put, List.setIfInBounds_toArray, List.set_cons_zero, List.set_cons_succ]
    refine take_F (i := 1) (d := some 27) (v := ?_) (by kernel_rfl) (by kernel_rfl) rfl rfl (by kernel_rfl) (by kernel_rfl) (by kernel_rfl) (fun _ _ _ h => h) (Or.inl ⟨by rfl, ?_⟩) (by assumption) ?_
    rotate_left
    · (intro w hSw; (try dsimp only at hSw); go_simp; (try rw [if_neg (by omega)]); (try (with_reducible rfl)))
    simp only [Act.put, List.setIfInBounds_toArray, List.set_cons_zero, List.set_cons_succ]
    refine call_L (i := 2) (d := (some 28)) rfl rfl (by kernel_rfl) (fun Kq hKq => ?_)
    go_simp
    go_at_call 64
    refine HP.out.mono ?_; rintro e v5 ⟨⟨u', l', w', rs'⟩, v', rfl, _, hl', ho', hs5, hg5⟩
    have HN5 := Lib.hid (HX.out.draw hs5 (grown_undrew hg5))
    obtain ⟨A5, c5, rfl⟩ := own_sl ho'
    obtain ⟨⟨m0, m1, m2, m3⟩, _⟩ := blk4 HN5.out.c.hq
    obtain ⟨⟨r0, r1, r2, r3⟩, s0, s1, s2, s3⟩ := blk4 HN5.out.c.hr
    have hrg := HN5.out.mg
    have hlt := HN5.out.c.gq
    have hqr : q ≠ W.heap.size := by omega
    have hw5 : W.heap.size < w5.drew.heap.size := by have := blk_ltN HX.out.c.hr; exact this
    have HO6 := Lib.hid (put4_own HN5.out.c.row (show W.heap.size < w1.heap.size + 1 by omega) (.int .i64 u) (.int .i64 l) (.int .i64 w) (.slice A3 rs.length c3))
    have HO6' := Lib.hid (put4_own ho' hw5 (.int .i64 u) (.int .i64 l) (.int .i64 w) (.slice A3 rs.length c3))
    have HR6 := Lib.hid (put4_same HN5.out.c.hr (.int .i64 u) (.int .i64 l) (.int .i64 w) (.slice A3 rs.length c3))
    have HM6 := Lib.hid (put4_heap HN5.out.m (show W.heap.size + 1 ≠ W.heap.size by omega) (.int .i64 u) (.int .i64 l) (.int .i64 w) (.slice A3 rs.length c3))
    have HB6 := Lib.hid (put4_below HN5.out.c.bel (Nat.le_refl W.heap.size) (.int .i64 u) (.int .i64 l) (.int .i64 w) (.slice A3 rs.length c3))
    have m6 := (blk4 (put4_heap HN5.out.c.hq hqr (.int .i64 u) (.int .i64 l) (.int .i64 w) (.slice A3 rs.length c3))).1
    clear hs5 hg5 ho' p0 p1 p2 p3 HX HP HK HSt hqr hw5
    (try go_wp2_with fail)
    refine hKq.out _ _ (⟨m0, m1, m2, m3⟩) (fun hHeld => ?_)
    clear hKq Kq
    (try simp only [Act.put, List.setIfInBounds_toArray, List.set_cons_zero, List.set_cons_succ])
    refine call_L (i := 3) (d := none) rfl rfl (by kernel_rfl) (fun Kq hKq => ?_)
    go_simp
    clear m0 m1 m2 m3 r0 r1 r2 r3 s0 s1 s2 s3 HN5
    unfold put4 at HO6 HO6' HR6 HM6 HB6 m6
    generalize (((v5.setCell ⟨W.heap.size, 0, none⟩ (.int .i64 u)).setCell ⟨W.heap.size, 1, none⟩ (.int .i64 l)).setCell ⟨W.heap.size, 2, none⟩ (.int .i64 w)).setCell ⟨W.heap.size, 3, none⟩ (.slice A3 rs.length c3) = w6 at *
    obtain ⟨⟨t0, t1, t2, t3⟩, y0, y1, y2, y3⟩ := blk4 HM6.out
    have HD := Lib.hid (doneB HR6.out HM6.out HB6.out (Nat.le_succ W.heap.size) (Nat.ne_of_lt (Nat.lt_succ_self W.heap.size)) HO6.out HO6'.out (.int .i64 u') (.int .i64 l') (.int .i64 w') (.slice A5 rs'.length c5))
    clear HR6 HM6 HB6 HO6 HO6' hrg hlt
    refine hKq.out _ _ (m6) (fun hHeld => ?_)
    clear hKq Kq
    (try simp only [Act.put, List.setIfInBounds_toArray, List.set_cons_zero, List.set_cons_succ])
    clear m6
    refine late_L (i := 4) (d := none) (by kernel_rfl) rfl rfl (by kernel_rfl) (fun Kq hKq => ?_)
    go_simp
    refine hKq.out _ _ ?_
    clear hKq Kq
    refine done_L (by kernel_rfl) ?_ _
    refine NoPanic.normal ?_
    go_wp2_with fail
    obtain ⟨⟨k0, k1, k2, k3⟩, ⟨j0, j1, j2, j3⟩, hbz, hoz, hoy⟩ := HD.out
    refine bodyPost_ret (v := .tuple #[aggAb u l w (.slice A3 rs.length c3), aggAb u' l' w' (.slice A5 rs'.length c5)]) (by simp [results, Try.results17, go_sem, k0, k1, k2, k3, j0, j1, j2, j3]) rfl ?_
    exact ⟨⟨u, l, w, rs⟩, ⟨u', l', w', rs'⟩, _, _, rfl, hrl, hl', hoz, hoy, hbz⟩
  rw [hok] at HK
  have HSt2 := Lib.hid (fun val => HSt.out val hok)
  clear hok
  go_wp2_with fail
  refine HK.out.mono ?_; rintro e w5 ⟨rfl, n5, hw5⟩
  have HX := Lib.hid (HN.out.below (below_eqA hw5))
  clear hw5 HN
  go_wp2_with fail
  refine (one_any B _ _ bs 6 w5 HX.out.c.src (by omega)).mono ?_; rintro e wz ⟨y, rfl, hs6, hg6⟩
  have HZ := Lib.hid (HX.out.draw hs6 hg6)
  clear hs6 hg6 HX
  cases y with
  | true =>
    go_upto_region 6 with (fail)
    obtain ⟨⟨p0, p1, p2, p3⟩, _⟩ := blk4 HZ.out.c.hq
    have HP := Lib.hid (l03Bent_any B _ _ bs wz.drew (SrcAt.drew HZ.out.c.src) (by omega))
    refine wp_region_noPanic ?_
    refine wp_region_L [4] (fun w' => w'.cell? ⟨q, 0, none⟩ = some (.int .i64 u) ∧ w'.cell? ⟨q, 1, none⟩ = some (.int .i64 l) ∧ w'.cell? ⟨q, 2, none⟩ = some (.int .i64 w) ∧ w'.cell? ⟨q, 3, none⟩ = some (.slice A3 rs.length c3)) (by kernel_rfl) (⟨p0, p1, p2, p3⟩) (fun hHeld => ?_)
    refine take_L [0] (i := 0) (d := some 26) (v := ?_) (by kernel_rfl) (by kernel_rfl) (by kernel_rfl) (by kernel_rfl) rfl rfl (by kernel_rfl) (by kernel_rfl) (by kernel_rfl) (fun _ _ _ h => h) (Or.inl ⟨by rfl, ?_⟩) (by assumption) ?_
    rotate_left
    · (intro w hSw; (try dsimp only at hSw); go_simp; (try rw [if_neg (by omega)]); (try (with_reducible rfl)))
    simp only [Act.put, List.setIfInBounds_toArray, List.set_cons_zero, List.set_cons_succ]
    refine take_F (i := 1) (d := some 27) (v := ?_) (by kernel_rfl) (by kernel_rfl) rfl rfl (by kernel_rfl) (by kernel_rfl) (by kernel_rfl) (fun _ _ _ h => h) (Or.inl ⟨by rfl, ?_⟩) (by assumption) ?_
    rotate_left
    · (intro w hSw; (try dsimp only at hSw); go_simp; (try rw [if_neg (by omega)]); (try (with_reducible rfl)))
    simp only [Act.put, List.setIfInBounds_toArray, List.set_cons_zero, List.set_cons_succ]
    refine call_L (i := 2) (d := (some 28)) rfl rfl (by kernel_rfl) (fun Kq hKq => ?_)
    go_simp
    go_at_call 64
    refine HP.out.mono ?_; rintro e v5 ⟨⟨u', l', w', rs'⟩, v', rfl, _, hl', ho', hs5, hg5⟩
    have HN5 := Lib.hid (HZ.out.draw hs5 (grown_undrew hg5))
    obtain ⟨A5, c5, rfl⟩ := own_sl ho'
    obtain ⟨⟨m0, m1, m2, m3⟩, _⟩ := blk4 HN5.out.c.hq
    obtain ⟨⟨r0, r1, r2, r3⟩, s0, s1, s2, s3⟩ := blk4 HN5.out.c.hr
    have hrg := HN5.out.mg
    have hlt := HN5.out.c.gq
    have hqr : q ≠ W.heap.size := by omega
    have hw5 : W.heap.size < wz.drew.heap.size := by have := blk_ltN HZ.out.c.hr; exact this
    have HO6 := Lib.hid (put4_own HN5.out.c.row (show W.heap.size < w1.heap.size + 1 by omega) (.int .i64 u) (.int .i64 l) (.int .i64 w) (.slice A3 rs.length c3))
    have HO6' := Lib.hid (put4_own ho' hw5 (.int .i64 u) (.int .i64 l) (.int .i64 w) (.slice A3 rs.length c3))
    have HR6 := Lib.hid (put4_same HN5.out.c.hr (.int .i64 u) (.int .i64 l) (.int .i64 w) (.slice A3 rs.length c3))
    have HM6 := Lib.hid (put4_heap HN5.out.m (show W.heap.size + 1 ≠ W.heap.size by omega) (.int .i64 u) (.int .i64 l) (.int .i64 w) (.slice A3 rs.length c3))
    have HB6 := Lib.hid (put4_below HN5.out.c.bel (Nat.le_refl W.heap.size) (.int .i64 u) (.int .i64 l) (.int .i64 w) (.slice A3 rs.length c3))
    have m6 := (blk4 (put4_heap HN5.out.c.hq hqr (.int .i64 u) (.int .i64 l) (.int .i64 w) (.slice A3 rs.length c3))).1
    clear HSt2 hs5 hg5 ho' p0 p1 p2 p3 HZ HP HK HSt hqr hw5
    (try go_wp2_with fail)
    refine hKq.out _ _ (⟨m0, m1, m2, m3⟩) (fun hHeld => ?_)
    clear hKq Kq
    (try simp only [Act.put, List.setIfInBounds_toArray, List.set_cons_zero, List.set_cons_succ])
    refine call_L (i := 3) (d := none) rfl rfl (by kernel_rfl) (fun Kq hKq => ?_)
    go_simp
    clear m0 m1 m2 m3 r0 r1 r2 r3 s0 s1 s2 s3 HN5
    unfold put4 at HO6 HO6' HR6 HM6 HB6 m6
    generalize (((v5.setCell ⟨W.heap.size, 0, none⟩ (.int .i64 u)).setCell ⟨W.heap.size, 1, none⟩ (.int .i64 l)).setCell ⟨W.heap.size, 2, none⟩ (.int .i64 w)).setCell ⟨W.heap.size, 3, none⟩ (.slice A3 rs.length c3) = w6 at *
    obtain ⟨⟨t0, t1, t2, t3⟩, y0, y1, y2, y3⟩ := blk4 HM6.out
    have HD := Lib.hid (doneB HR6.out HM6.out HB6.out (Nat.le_succ W.heap.size) (Nat.ne_of_lt (Nat.lt_succ_self W.heap.size)) HO6.out HO6'.out (.int .i64 u') (.int .i64 l') (.int .i64 w') (.slice A5 rs'.length c5))
    clear HR6 HM6 HB6 HO6 HO6' hrg hlt
    refine hKq.out _ _ (m6) (fun hHeld => ?_)
    clear hKq Kq
    (try simp only [Act.put, List.setIfInBounds_toArray, List.set_cons_zero, List.set_cons_succ])
    clear m6
    refine late_L (i := 4) (d := none) (by kernel_rfl) rfl rfl (by kernel_rfl) (fun Kq hKq => ?_)
    go_simp
    refine hKq.out _ _ ?_
    clear hKq Kq
    refine done_L (by kernel_rfl) ?_ _
    refine NoPanic.normal ?_
    go_wp2_with fail
    obtain ⟨⟨k0, k1, k2, k3⟩, ⟨j0, j1, j2, j3⟩, hbz, hoz, hoy⟩ := HD.out
    refine bodyPost_ret (v := .tuple #[aggAb u l w (.slice A3 rs.length c3), aggAb u' l' w' (.slice A5 rs'.length c5)]) (by simp [results, Try.results17, go_sem, k0, k1, k2, k3, j0, j1, j2, j3]) rfl ?_
    exact ⟨⟨u, l, w, rs⟩, ⟨u', l', w', rs'⟩, _, _, rfl, hrl, hl', hoz, hoy, hbz⟩
  | false =>
    go_wp2_with fail
    refine (pick_any B _ _ bs 100000 wz HZ.out.c.src (by omega)).mono ?_; rintro e w7 ⟨val, rfl, ⟨v0, v1, _⟩, hs7, hg7⟩
    have v2 := v1 (by omega)
    have HY := Lib.hid (HZ.out.draw hs7 hg7)
    have HC := Lib.hid (HSt2.out val v0 (by omega) w7 (AbAt.of HY.out.c.hq) (Rd.of_own HY.out.c.row))
    clear hs7 hg7 HZ v1 HK HSt HSt2
    go_wp2_with fail
    refine HC.out.mono ?_; rintro e w8 ⟨v3, rfl, ho3, hb3⟩
    have hpl := plainRs_len u w rs.length val
    generalize plainRs u w rs.length val = ps at *
    have hpl2 : ps.length ≤ 11 := by omega
    have hbn := (Below.refl w8.heap.size w8).alloc (Nat.le_refl _) (.cells #[.int .i64 u, .int .i64 l, .int .i64 w, v3] 26)
    have HX8 := Lib.hid ((HY.out.below hb3).below hbn)
    have HQ8 := Lib.hid (heap_alloc_new w8 (.cells #[.int .i64 u, .int .i64 l, .int .i64 w, v3] 26))
    have HO8 := Lib.hid (own_below ho3 hbn)
    have hq8 : W.heap.size < w8.heap.size := blk_ltN (HY.out.below hb3).c.hr
    have hw7 : W.heap.size < w7.heap.size := blk_ltN HY.out.c.hr
    have Hpl := Lib.hid hpl
    obtain ⟨A3', c3', rfl⟩ := own_sl ho3
    clear ho3 hb3 hbn HY HC hpl
    go_upto_region 5 with (fail)
    generalize w8.heap.size = q8 at *
    generalize w8.alloc (.cells #[.int .i64 u, .int .i64 l, .int .i64 w, .slice A3' rs.length c3'] 26) = w9 at *
    obtain ⟨⟨p0, p1, p2, p3⟩, _⟩ := blk4 HX8.out.c.hq
    obtain ⟨⟨n0, n1, n2, n3⟩, _⟩ := blk4 HQ8.out
    obtain ⟨⟨r0, r1, r2, r3⟩, s0, s1, s2, s3⟩ := blk4 HX8.out.c.hr
    have hrg := HX8.out.mg
    have hlt := HX8.out.c.gq
    have hqr : q ≠ W.heap.size := by omega
    have hqr8 : q8 ≠ W.heap.size := by omega
    have HO6 := Lib.hid (put4_own HX8.out.c.row (show W.heap.size < w1.heap.size + 1 by omega) (.int .i64 u) (.int .i64 l) (.int .i64 w) (.slice A3 rs.length c3))
    have HO6' := Lib.hid (put4_own HO8.out hw7 (.int .i64 u) (.int .i64 l) (.int .i64 w) (.slice A3 rs.length c3))
    have HR6 := Lib.hid (put4_same HX8.out.c.hr (.int .i64 u) (.int .i64 l) (.int .i64 w) (.slice A3 rs.length c3))
    have HM6 := Lib.hid (put4_heap HX8.out.m (show W.heap.size + 1 ≠ W.heap.size by omega) (.int .i64 u) (.int .i64 l) (.int .i64 w) (.slice A3 rs.length c3))
    have HB6 := Lib.hid (put4_below HX8.out.c.bel (Nat.le_refl W.heap.size) (.int .i64 u) (.int .i64 l) (.int .i64 w) (.slice A3 rs.length c3))
    have m6 := (blk4 (put4_heap HX8.out.c.hq hqr (.int .i64 u) (.int .i64 l) (.int .i64 w) (.slice A3 rs.length c3))).1
    have m8 := (blk4 (put4_heap HQ8.out hqr8 (.int .i64 u) (.int .i64 l) (.int .i64 w) (.slice A3 rs.length c3))).1
    clear hqr hqr8 hw7 hq8 hrg hlt HX8 HQ8 HO8
    refine wp_region_noPanic ?_
    refine wp_region_L [3] (fun w' => cell4 w' q (.int .i64 u) (.int .i64 l) (.int .i64 w) (.slice A3 rs.length c3) ∧ cell4 w' q8 (.int .i64 u) (.int .i64 l) (.int .i64 w) (.slice A3' rs.length c3')) (by kernel_rfl) (⟨⟨p0, p1, p2, p3⟩, ⟨n0, n1, n2, n3⟩⟩) (fun hHeld => ?_)
    refine take_L [0] (i := 0) (d := some 24) (v := ?_) (by kernel_rfl) (by kernel_rfl) (by kernel_rfl) (by kernel_rfl) rfl rfl (by kernel_rfl) (by kernel_rfl) (by kernel_rfl) (fun _ _ _ h => h) (Or.inl ⟨by rfl, ?_⟩) (by assumption) ?_
    rotate_left
    · (intro w hSw; (try dsimp only at hSw); go_simp; (try rw [if_neg (by omega)]); (try (with_reducible rfl)))
    simp only [Act.put, List.setIfInBounds_toArray, List.set_cons_zero, List.set_cons_succ]
    refine take_L [1] (i := 1) (d := some 25) (v := ?_) (by kernel_rfl) (by kernel_rfl) (by kernel_rfl) (by kernel_rfl) rfl rfl (by kernel_rfl) (by kernel_rfl) (by kernel_rfl) (fun _ _ _ h => h) (Or.inl ⟨by rfl, ?_⟩) (by assumption) ?_
    rotate_left
    · (intro w hSw; (try dsimp only at hSw); go_simp; (try rw [if_neg (by omega)]); (try (with_reducible rfl)))
    simp only [Act.put, List.setIfInBounds_toArray, List.set_cons_zero, List.set_cons_succ]
    refine call_L (i := 2) (d := none) rfl rfl (by kernel_rfl) (fun Kq hKq => ?_)
    go_simp
    clear p0 p1 p2 p3 n0 n1 n2 n3 r0 r1 r2 r3 s0 s1 s2 s3
    unfold put4 at HO6 HO6' HR6 HM6 HB6 m6 m8
    generalize (((w9.setCell ⟨W.heap.size, 0, none⟩ (.int .i64 u)).setCell ⟨W.heap.size, 1, none⟩ (.int .i64 l)).setCell ⟨W.heap.size, 2, none⟩ (.int .i64 w)).setCell ⟨W.heap.size, 3, none⟩ (.slice A3 rs.length c3) = w6 at *
    have HM7 := Lib.hid (show w6.drew.heap[W.heap.size + 1]? = _ from HM6.out)
    have HD := Lib.hid (doneB (w := w6.drew) HR6.out HM6.out HB6.out.drew (Nat.le_succ W.heap.size) (Nat.ne_of_lt (Nat.lt_succ_self W.heap.size)) HO6.out HO6'.out (.int .i64 u) (.int .i64 l) (.int .i64 w) (.slice A3' rs.length c3'))
    have m6' : cell4 w6.drew q (.int .i64 u) (.int .i64 l) (.int .i64 w) (.slice A3 rs.length c3) := m6
    have m8' : cell4 w6.drew q8 (.int .i64 u) (.int .i64 l) (.int .i64 w) (.slice A3' rs.length c3') := m8
    clear HR6 HM6 HB6 HO6 HO6' m6 m8
    generalize w6.drew = w10 at *
    obtain ⟨⟨t0, t1, t2, t3⟩, y0, y1, y2, y3⟩ := blk4 HM7.out
    refine hKq.out _ _ (⟨m6', m8'⟩) (fun hHeld => ?_)
    clear hKq Kq
    (try simp only [Act.put, List.setIfInBounds_toArray, List.set_cons_zero, List.set_cons_succ])
    clear m6' m8'
    refine late_L (i := 3) (d := none) (by kernel_rfl) rfl rfl (by kernel_rfl) (fun Kq hKq => ?_)
    go_simp
    refine hKq.out _ _ ?_
    clear hKq Kq
    refine done_L (by kernel_rfl) ?_ _
    refine NoPanic.normal ?_
    go_wp2_with fail
    obtain ⟨⟨k0, k1, k2, k3⟩, ⟨j0, j1, j2, j3⟩, hbz, hoz, hoy⟩ := HD.out
    refine bodyPost_ret (v := .tuple #[aggAb u l w (.slice A3 rs.length c3), aggAb u l w (.slice A3' rs.length c3')]) (by simp [results, Try.results17, go_sem, k0, k1, k2, k3, j0, j1, j2, j3]) rfl ?_
    exact ⟨⟨u, l, w, rs⟩, ⟨u, l, w, ps⟩, _, _, rfl, hrl, hpl2, hoz, by show Rd _ _ _ ps.length _ _; rw [Hpl.out]; exact hoy, hbz⟩
end Go.Proofs.Ytemcdmjnokpldaa
/- Abaci: lengths of the moves that add. -/
namespace Go.Proofs.Ytemcdmjnokpldaa

theorem addT_len (u w : Int) : ∀ (rs : List (Int × Int)) (k : Nat) (d : Int) (rs' : List (Int × Int)) (ms : List Mv), addT u w k rs d = some (rs', ms) → rs'.length = rs.length ∧ ms.length ≤ rs.length
  | [], k, d, rs', ms, h => by
    unfold addT at h
    split at h
    · injection h with h; injection h with h1 h2; subst h1; subst h2; exact ⟨rfl, Nat.le_refl _⟩
    · cases h
  | r :: rs, k, d, rs', ms, h => by
    unfold addT at h
    split at h
    · injection h with h; injection h with h1 h2; subst h1; subst h2; exact ⟨rfl, Nat.zero_le _⟩
    · cases ht : addT u w (k + 1) rs ((shownR w r + d) / 10) with
      | none => rw [ht] at h; cases h
      | some x =>
        obtain ⟨t, m2⟩ := x
        rw [ht] at h
        obtain ⟨i1, i2⟩ := addT_len u w rs _ _ _ _ ht
        injection h with h; injection h with h1 h2; subst h1; subst h2
        exact ⟨by simp [i1], by simp [i2]⟩
theorem addR_len {u w : Int} {k : Nat} {d : Int} {cur c : List (Int × Int)} {ms m : List Mv} (h : addR u w k d cur ms = some (c, m)) : c.length ≤ cur.length ∧ m.length ≤ ms.length + cur.length := by
  unfold addR at h
  cases ht : addT u w k (cur.drop k) d with
  | none => rw [ht] at h; cases h
  | some x =>
    obtain ⟨t, m2⟩ := x
    rw [ht] at h
    obtain ⟨i1, i2⟩ := addT_len u w _ _ _ _ _ ht
    injection h with h; injection h with h1 h2; subst h1; subst h2
    rw [List.length_drop] at i1 i2
    refine ⟨?_, ?_⟩
    · rw [List.length_append, List.length_take]; omega
    · rw [List.length_append]; omega
theorem addD_len (u w : Int) (ds : List Int) (n : Nat) : ∀ (p : Nat) (cur c : List (Int × Int)) (ms m : List Mv), cur.length ≤ n → addD u w ds p cur ms = some (c, m) → c.length ≤ n ∧ m.length ≤ ms.length + p * n
  | 0, cur, c, ms, m, hn, h => by
    injection h with h; injection h with h1 h2; subst h1; subst h2
    exact ⟨hn, by omega⟩
  | p + 1, cur, c, ms, m, hn, h => by
    unfold addD at h
    cases ht : addR u w p (ds.getD p 0) cur ms with
    | none => rw [ht] at h; cases h
    | some x =>
      obtain ⟨t, m2⟩ := x
      rw [ht] at h
      obtain ⟨i1, i2⟩ := addR_len ht
      obtain ⟨j1, j2⟩ := addD_len u w ds n p t c m2 m (by omega) h
      rw [Nat.succ_mul]
      exact ⟨j1, by omega⟩
theorem digs_len : ∀ (n : Nat) (v : Int), (digs n v).length ≤ n
  | 0, v => Nat.le_refl _
  | n + 1, v => by
    unfold digs
    split
    · exact Nat.zero_le _
    · have := digs_len n (v / 10); simp; exact this
theorem addV_len (a : Ab) (v : Int) : (addV a v).1.rods.length ≤ 10 ∧ (addV a v).2.1.length ≤ 130 := by
  unfold addV
  split
  · rename_i hok
    obtain ⟨_, _, _, h4⟩ := okAb_and hok
    split
    · split
      · cases hd : addD a.u a.w (digs 13 v) (digs 13 v).length a.rods [] with
        | none => exact ⟨Nat.zero_le _, Nat.zero_le _⟩
        | some x =>
          obtain ⟨c, m⟩ := x
          obtain ⟨j1, j2⟩ := addD_len a.u a.w _ 10 _ _ _ _ _ h4 hd
          have := digs_len 13 v
          have e : ([] : List Mv).length = 0 := rfl
          exact ⟨j1, by show m.length ≤ 130; omega⟩
      · exact ⟨Nat.zero_le _, Nat.zero_le _⟩
    · exact ⟨Nat.zero_le _, Nat.zero_le _⟩
  · exact ⟨Nat.zero_le _, Nat.zero_le _⟩
end Go.Proofs.Ytemcdmjnokpldaa
/- Beads: DrawReplayBeads. -/
namespace Go.Proofs.Ytemcdmjnokpldaa
open Go.RowKit Go.Joins

/-- an abacus and moves drawn from the code -/
def RetCl (W : World) (e : Ending) (w' : World) : Prop := ∃ (a : Ab) (v vl : Value) (ms : List Mv), e = .returned (.tuple #[aggAb a.u a.l a.w v, vl]) ∧ a.rods.length ≤ 11 ∧ ms.length ≤ 150 ∧ Rd w' w'.heap.size v a.rods.length 2 (rodsC a.rods) ∧ Rd w' w'.heap.size vl ms.length 3 (movesC ms) ∧ Below W.heap.size W w'
theorem put4_grown (w : World) (q : Nat) (a b c d : Value) : w.grownBy (put4 w q a b c d) (some q) :=
  have g0 : w.grownBy w (some q) := ⟨rfl, rfl, rfl, Nat.le_refl _, fun _ _ _ => rfl⟩
  grown_setCell (grown_setCell (grown_setCell (grown_setCell g0 (p := ⟨q, 0, none⟩) (.inl rfl) _) (p := ⟨q, 1, none⟩) (.inl rfl) _) (p := ⟨q, 2, none⟩) (.inl rfl) _) (p := ⟨q, 3, none⟩) (.inl rfl) _
section
variable {W wx wy : World} {B g k q n : Nat} {bs : List UInt8} {a b c v : Value} {cs : List Value}
theorem CdA.grownO {o : Option Nat} (h : CdA W wx B g k bs q a b c v n cs) (hg : wx.grownBy wy o) (ho : ∀ x, o = some x → g < x ∧ x ≠ q) (hrow : v.ownBlock = none ∨ v.ownBlock ≠ o) : CdA W wy B g k bs q a b c v n cs :=
  ⟨(hg.block _ (blk_ltN h.hr) (fun e => by have := (ho _ e.symm).1; have := h.rg; omega)).trans h.hr, h.src.grown hg (fun x hx => (ho x hx).1), (hg.block _ (blk_ltN h.hq) (fun e => (ho _ e.symm).2 rfl)).trans h.hq, h.row.kept hg hrow, h.rg, h.gq, h.bel.grown hg h.bel.size (fun x hx => by have := (ho x hx).1; have := h.rg; omega)⟩
theorem CdA.more {k' : Nat} (h : CdA W wx B g k bs q a b c v n cs) (hk : k ≤ k') : CdA W wx B g k' bs q a b c v n cs := ⟨h.hr, h.src.more hk, h.hq, h.row, h.rg, h.gq, h.bel⟩
theorem CdA.below (h : CdA W wx B g k bs q a b c v n cs) (hb : Below wx.heap.size wx wy) : CdA W wy B g k bs q a b c v n cs :=
  ⟨(hb.block _ (blk_ltN h.hr)).trans h.hr, h.src.below hb, (hb.block _ (blk_ltN h.hq)).trans h.hq, own_below h.row hb, h.rg, h.gq, h.bel.trans (hb.mono h.bel.size)⟩
end
/-- a draw of an abacus and moves under way -/
structure CdL (W wx : World) (B g k : Nat) (bs : List UInt8) (q : Nat) (a b c v : Value) (n : Nat) (cs : List Value) (vl : Value) (ms : List Mv) : Prop where
  c : CdA W wx B g k bs q a b c v n cs
  mv : wx.ownsRow (g + 1) 37 3 vl ms.length (movesC ms)
section
variable {W wx wy : World} {B g k k' q n : Nat} {bs : List UInt8} {a b c v vl vl' : Value} {cs : List Value} {ms ms' : List Mv}
theorem CdL.draw (h : CdL W wx B g k bs q a b c v n cs vl ms) (hs : SrcAt wy B g k' bs) (hg : wx.grownBy wy (some g)) : CdL W wy B g k' bs q a b c v n cs vl ms :=
  ⟨h.c.draw hs hg, h.mv.kept hg (by
    cases hv : vl.ownBlock with
    | none => exact .inl rfl
    | some x => exact .inr fun e => by have := (h.mv.lt x hv).1; injection e; omega)⟩
theorem CdL.below (h : CdL W wx B g k bs q a b c v n cs vl ms) (hb : Below wx.heap.size wx wy) : CdL W wy B g k bs q a b c v n cs vl ms :=
  ⟨h.c.below hb, own_below h.mv hb⟩
theorem CdL.app (h : CdL W wx B g k bs q a b c v n cs vl ms) (hr : wy.ownsRow (g + 1) 37 3 vl' ms'.length (movesC ms')) (hg : wx.grownBy wy vl.ownBlock) : CdL W wy B g k bs q a b c v n cs vl' ms' :=
  ⟨h.c.grownO hg (fun x hx => ⟨by have := (h.mv.lt x hx).1; omega, fun e => own_neT h.mv h.c.hq (by decide) (by rw [hx, e])⟩) (own_own h.c.row h.mv (by decide)), hr⟩
/-- another block of abaci, behind, is written -/
theorem CdL.put {qz : Nat} {x : Array Value} (h : CdL W wx B g k bs q a b c v n cs vl ms) (hz : wx.heap[qz]? = some (.cells x 26 (0, 0))) (h1 : g < qz) (h2 : qz ≠ q) (x0 x1 x2 x3 : Value) : CdL W (put4 wx qz x0 x1 x2 x3) B g k bs q a b c v n cs vl ms :=
  have hg := put4_grown wx qz x0 x1 x2 x3
  ⟨h.c.grownO hg (fun y hy => by injection hy with hy; subst hy; exact ⟨h1, h2⟩) (.inr (own_neT h.c.row hz (by decide))), h.mv.kept hg (.inr (own_neT h.mv hz (by decide)))⟩
end
set_option maxRecDepth 100000 in
set_option maxHeartbeats 6400000 in
theorem drawRB_any (B : Nat) (cv : Value) (bs : List UInt8) (W : World) (h : Rd W B cv bs.length 1 (bs.map byV)) (hB : B ≤ W.heap.size) : Calls Try.prog 11 #[cv] W (RetCl W) := by
  have hb0 := (Below.refl W.heap.size W).alloc (Nat.le_refl _) objZ
  have Hr0 := Lib.hid (heap_alloc_new W (.cells #[.int .i64 0, .int .i64 0, .int .i64 0, .slice none 0 0] 26))
  have HB0 := Lib.hid hb0
  have HF := Lib.hid (l00From_any B cv bs (W.alloc objZ) (h.below (hb0.mono hB)) (Nat.le_trans hB hb0.size))
  have hz0 : W.heap.size < (W.alloc objZ).heap.size := by simp
  obtain ⟨_, A, c, rfl, _⟩ := h
  clear hb0
  go_enter Try.func11, Try.ntmps11
  go_wp2_with fail
  generalize W.alloc objZ = w1 at *
  refine HF.out.mono ?_; rintro e w2 ⟨rfl, hs2, hb2, hl2⟩
  have H2 := Lib.hid hs2
  have Hr2 := Lib.hid ((hb2.block _ (by omega)).trans Hr0.out)
  have HB2 := Lib.hid (HB0.out.trans (hb2.mono HB0.out.size))
  have hsb := hb2.size
  clear hs2 hb2 HF Hr0 HB0
  go_wp2_with fail
  refine (l03Bent_any B _ _ bs w2 H2.out (by omega)).mono ?_; rintro e w3 ⟨⟨u, l, w, rs⟩, v, rfl, _, hl, ho, hs3, hg3⟩
  have hb3 := HB2.out.grown hg3 HB2.out.size (fun x hx => by cases hx; omega)
  have hr3 := (hg3.block _ (blk_ltN Hr2.out) (fun e => by injection e; omega)).trans Hr2.out
  have hba := (Below.refl w3.heap.size w3).alloc (Nat.le_refl _) (.cells #[.int .i64 u, .int .i64 l, .int .i64 w, v] 26)
  have hgz := hg3.size
  obtain ⟨A3, c3, rfl⟩ := own_sl ho
  have HN := Lib.hid (show CdA W (w3.alloc (.cells #[.int .i64 u, .int .i64 l, .int .i64 w, .slice A3 rs.length c3] 26)) B w1.heap.size _ bs w3.heap.size (.int .i64 u) (.int .i64 l) (.int .i64 w) (.slice A3 rs.length c3) rs.length (rodsC rs) from
    ⟨(hba.block _ (blk_ltN hr3)).trans hr3, hs3.below hba, heap_alloc_new w3 _, own_below (ownsRow_le ho (by omega)) hba, by omega, by omega, hb3.trans (hba.mono hb3.size)⟩)
  clear hs3 hg3 hb3 hr3 hba H2 Hr2 HB2 ho
  go_upto_region 3 with (fail)
  generalize w3.heap.size = q at *
  generalize w3.alloc (.cells #[.int .i64 u, .int .i64 l, .int .i64 w, .slice A3 rs.length c3] 26) = w4 at *
  clear hl2 hgz
  have hrl : rs.length ≤ 11 := hl
  clear hl
  go_wp2_with fail
  refine (one_any B _ _ bs 2 w4 HN.out.src (by omega)).mono ?_; rintro e w5 ⟨y, rfl, hs5, hg5⟩
  have HN5 := Lib.hid (HN.out.draw hs5 hg5)
  clear hs5 hg5 HN
  go_upto_if 16 with (fail)
  go_cut [] (fun wx => CdA W wx B w1.heap.size 100 bs q (.int .i64 u) (.int .i64 l) (.int .i64 w) (.slice A3 rs.length c3) rs.length (rodsC rs))
  case first =>
    cases y with
    | false =>
      go_wp2_with fail
      go_meet
      exact HN5.out.more (by omega)
    | true =>
      go_upto_region 4 with (fail)
      obtain ⟨⟨p0, p1, p2, p3⟩, _⟩ := blk4 HN5.out.hq
      refine wp_region_noPanic ?_
      refine wp_region_L [11,10,9] (fun w' => cell4 w' q (.int .i64 u) (.int .i64 l) (.int .i64 w) (.slice A3 rs.length c3)) (by kernel_rfl) (⟨p0, p1, p2, p3⟩) (fun hHeld => ?_)
      refine take_L [0] (i := 0) (d := some 18) (v := ?_) (by kernel_rfl) (by kernel_rfl) (by kernel_rfl) (by kernel_rfl) rfl rfl (by kernel_rfl) (by kernel_rfl) (by kernel_rfl) (fun _ _ _ h => h) (Or.inl ⟨by rfl, ?_⟩) (by assumption) ?_
      rotate_left
      · (intro w hSw; (try dsimp only at hSw); go_simp; (try rw [if_neg (by omega)]); (try (with_reducible rfl)))
      simp only [Act.put, List.setIfInBounds_toArray, List.set_cons_zero, List.set_cons_succ]
      refine take_F (i := 1) (d := some 19) (v := ?_) (by kernel_rfl) (by kernel_rfl) rfl rfl (by kernel_rfl) (by kernel_rfl) (by kernel_rfl) (fun _ _ _ h => h) (Or.inl ⟨by rfl, ?_⟩) (by assumption) ?_
      rotate_left
      · (intro w hSw; (try dsimp only at hSw); go_simp; (try rw [if_neg (by omega)]); (try (with_reducible rfl)))
      simp only [Act.put, List.setIfInBounds_toArray, List.set_cons_zero, List.set_cons_succ]
      refine both_L (i := 2) (j := 8) (di := (some 20)) (dj := (some 6)) rfl rfl rfl rfl (by kernel_rfl) (fun Kq hKq => ?_) (fun Kq hKq => ?_)
      · go_simp
        go_at_call 77
        refine (pick_any B _ _ bs 900 w5.drew (SrcAt.drew HN5.out.src) (by omega)).mono ?_; rintro e w6 ⟨val, rfl, _, hs6, hg6⟩
        have HN6 := Lib.hid (HN5.out.draw hs6 (grown_undrew hg6))
        obtain ⟨⟨m0, m1, m2, m3⟩, _⟩ := blk4 HN6.out.hq
        clear hs6 hg6 HN5 p0 p1 p2 p3
        (try go_wp2_with fail)
        refine hKq.out _ _ (⟨m0, m1, m2, m3⟩) (fun hHeld => ?_)
        clear hKq Kq
        (try simp only [Act.put, List.setIfInBounds_toArray, List.set_cons_zero, List.set_cons_succ])
        refine both_L (i := 3) (j := 8) (di := (some 21)) (dj := (some 6)) rfl rfl rfl rfl (by kernel_rfl) (fun Kq hKq => ?_) (fun Kq hKq => ?_)
        · go_simp
          go_at_call 10
          refine (AddS_any w6.heap.size u l w val (.slice A3 rs.length c3) rs w6 (Rd.of_own HN6.out.row) (Nat.le_refl _) (by omega)).mono ?_; rintro e w7 ⟨v', vl, rfl, ho7, hm7, hb7⟩
          obtain ⟨hl10, hml⟩ := addV_len ⟨u, l, w, rs⟩ val
          generalize addV ⟨u, l, w, rs⟩ val = X at *
          obtain ⟨⟨u', l', w', rs'⟩, ms, cd⟩ := X
          obtain ⟨Am, cm, rfl⟩ := own_sl hm7
          obtain ⟨A7, c7, rfl⟩ := own_sl ho7
          have hml2 : ms.length ≤ 130 := hml
          have hg6 := HN6.out.gq
          have hq6 := blk_ltN HN6.out.hq
          have HL6 := Lib.hid (show CdL W w7 B w1.heap.size _ bs q (.int .i64 u) (.int .i64 l) (.int .i64 w) (.slice A3 rs.length c3) rs.length (rodsC rs) (.slice Am ms.length cm) ms from ⟨HN6.out.below hb7, ownsRow_le hm7 (by omega)⟩)
          have HL := Lib.hid (HL6.out.below ((Below.refl w7.heap.size w7).alloc (Nat.le_refl _) (.cells #[.int .i64 u', .int .i64 l', .int .i64 w', .slice A7 rs'.length c7] 26)))
          clear ho7 hm7 hb7 HN6 m0 m1 m2 m3 hml hl10
          obtain ⟨⟨m0, m1, m2, m3⟩, _⟩ := blk4 HL6.out.c.hq
          have hbz := (Below.refl w7.heap.size w7).alloc (Nat.le_refl _) (.cells #[.int .i64 0, .int .i64 0, .int .i64 0, .slice none 0 0] 26)
          have mz := (blk4 (HL6.out.below hbz).c.hq).1
          clear HL6 hbz
          (try go_wp2_with fail)
          refine hKq.out _ _ (⟨m0, m1, m2, m3⟩) (fun hHeld => ?_)
          clear hKq Kq
          (try simp only [Act.put, List.setIfInBounds_toArray, List.set_cons_zero, List.set_cons_succ])
          refine take_F (i := 4) (d := some 17) (v := ?_) (by kernel_rfl) (by kernel_rfl) rfl rfl (by kernel_rfl) (by kernel_rfl) (by kernel_rfl) (fun _ _ _ h => h) (Or.inl ⟨by rfl, ?_⟩) (by assumption) ?_
          rotate_left
          · (intro w hSw; (try dsimp only at hSw); go_simp; (try rw [if_neg (by omega)]); (try (with_reducible rfl)))
          simp only [Act.put, List.setIfInBounds_toArray, List.set_cons_zero, List.set_cons_succ]
          refine take_F (i := 5) (d := some 22) (v := ?_) (by kernel_rfl) (by kernel_rfl) rfl rfl (by kernel_rfl) (by kernel_rfl) (by kernel_rfl) (fun _ _ _ h => h) (Or.inl ⟨by rfl, ?_⟩) (by assumption) ?_
          rotate_left
          · (intro w hSw; (try dsimp only at hSw); go_simp; (try rw [if_neg (by omega)]); (try (with_reducible rfl)))
          simp only [Act.put, List.setIfInBounds_toArray, List.set_cons_zero, List.set_cons_succ]
          refine take_F (i := 6) (d := some 23) (v := ?_) (by kernel_rfl) (by kernel_rfl) rfl rfl (by kernel_rfl) (by kernel_rfl) (by kernel_rfl) (fun _ _ _ h => h) (Or.inl ⟨by rfl, ?_⟩) (by assumption) ?_
          rotate_left
          · (intro w hSw; (try dsimp only at hSw); go_simp; (try rw [if_neg (by omega)]); (try (with_reducible rfl)))
          simp only [Act.put, List.setIfInBounds_toArray, List.set_cons_zero, List.set_cons_succ]
          refine take_F (i := 7) (d := some 24) (v := ?_) (by kernel_rfl) (by kernel_rfl) rfl rfl (by kernel_rfl) (by kernel_rfl) (by kernel_rfl) (fun _ _ _ h => h) (Or.inl ⟨by rfl, ?_⟩) (by assumption) ?_
          rotate_left
          · (intro w hSw; (try dsimp only at hSw); go_simp; (try rw [if_neg (by omega)]); (try (with_reducible rfl)))
          simp only [Act.put, List.setIfInBounds_toArray, List.set_cons_zero, List.set_cons_succ]
          refine call_L (i := 8) (d := (some 6)) rfl rfl (by kernel_rfl) (fun Kq hKq => ?_)
          go_simp
          refine hKq.out _ _ (mz) (fun hHeld => ?_)
          clear hKq Kq
          (try simp only [Act.put, List.setIfInBounds_toArray, List.set_cons_zero, List.set_cons_succ])
          refine late_L (i := 9) (d := none) (by kernel_rfl) rfl rfl (by kernel_rfl) (fun Kq hKq => ?_)
          go_simp
          refine hKq.out _ _ ?_
          clear hKq Kq
          refine late_L (i := 10) (d := (some 7)) (by kernel_rfl) rfl rfl (by kernel_rfl) (fun Kq hKq => ?_)
          go_simp
          refine hKq.out _ _ ?_
          clear hKq Kq
          refine late_L (i := 11) (d := (some 8)) (by kernel_rfl) rfl rfl (by kernel_rfl) (fun Kq hKq => ?_)
          go_simp
          refine hKq.out _ _ ?_
          clear hKq Kq
          refine done_L (by kernel_rfl) ?_ _
          refine NoPanic.normal ?_
          by_cases e0 : cd = 0
          · subst e0
            obtain ⟨⟨m0, m1, m2, m3⟩, _⟩ := blk4 HL.out.c.hq
            obtain ⟨⟨r0, r1, r2, r3⟩, s0, s1, s2, s3⟩ := blk4 HL.out.c.hr
            have hrg := HL.out.c.rg
            have HD := Lib.hid (doneA HL.out.c.hr HL.out.c.bel (Nat.le_refl _) HL.out.c.row (by omega) (.int .i64 u) (.int .i64 l) (.int .i64 w) (.slice A3 rs.length c3))
            have hne := own_neT HL.out.mv HL.out.c.hr (by decide)
            have HMv := Lib.hid (Rd.of_own (ownsRow_setCell_other (ownsRow_setCell_other (ownsRow_setCell_other (ownsRow_setCell_other HL.out.mv (a := ⟨W.heap.size, 0, none⟩) hne (.int .i64 u)) (a := ⟨W.heap.size, 1, none⟩) hne (.int .i64 l)) (a := ⟨W.heap.size, 2, none⟩) hne (.int .i64 w)) (a := ⟨W.heap.size, 3, none⟩) hne (.slice A3 rs.length c3)))
            clear HL hrg hne
            go_wp2_with fail
            obtain ⟨⟨k0, k1, k2, k3⟩, hbz, hoz⟩ := HD.out
            refine bodyPost_ret (v := .tuple #[aggAb u l w (.slice A3 rs.length c3), .slice Am ms.length cm]) (by simp [results, Try.results11, go_sem, k0, k1, k2, k3]) rfl ?_
            exact ⟨⟨u, l, w, rs⟩, _, _, ms, rfl, hrl, by omega, hoz, HMv.out, hbz⟩
          · have b0 : (cd == 0) = false := by simpa using e0
            go_wp2_with fail
            go_meet
            exact HL.out.c.more (by omega)
        · go_simp
          have hbz := (Below.refl w6.heap.size w6).alloc (Nat.le_refl _) (.cells #[.int .i64 0, .int .i64 0, .int .i64 0, .slice none 0 0] 26)
          have HN8 := Lib.hid (HN6.out.below hbz)
          have HZ := Lib.hid (heap_alloc_new w6 (.cells #[.int .i64 0, .int .i64 0, .int .i64 0, .slice none 0 0] 26))
          have hqz : q < w6.heap.size := blk_ltN HN6.out.hq
          have hgq := HN6.out.gq
          obtain ⟨⟨n0, n1, n2, n3⟩, _⟩ := blk4 HN8.out.hq
          clear hbz HN6 m0 m1 m2 m3
          refine hKq.out _ _ (⟨n0, n1, n2, n3⟩) (fun hHeld => ?_)
          clear hKq Kq
          (try simp only [Act.put, List.setIfInBounds_toArray, List.set_cons_zero, List.set_cons_succ])
          generalize w6.alloc (.cells #[.int .i64 0, .int .i64 0, .int .i64 0, .slice none 0 0] 26) = w8 at *
          generalize w6.heap.size = qz at *
          refine call_L (i := 3) (d := (some 21)) rfl rfl (by kernel_rfl) (fun Kq hKq => ?_)
          go_simp
          go_at_call 10
          refine (AddS_any w8.heap.size u l w val (.slice A3 rs.length c3) rs w8 (Rd.of_own HN8.out.row) (Nat.le_refl _) (by omega)).mono ?_; rintro e w7 ⟨v', vl, rfl, ho7, hm7, hb7⟩
          obtain ⟨hl10, hml⟩ := addV_len ⟨u, l, w, rs⟩ val
          generalize addV ⟨u, l, w, rs⟩ val = X at *
          obtain ⟨⟨u', l', w', rs'⟩, ms, cd⟩ := X
          obtain ⟨Am, cm, rfl⟩ := own_sl hm7
          obtain ⟨A7, c7, rfl⟩ := own_sl ho7
          have hml2 : ms.length ≤ 130 := hml
          have hw8 := blk_ltN HN8.out.hq
          obtain ⟨⟨m0, m1, m2, m3⟩, _⟩ := blk4 HN8.out.hq
          clear n0 n1 n2 n3
          have HLz := Lib.hid (show CdL W w7 B w1.heap.size _ bs q (.int .i64 u) (.int .i64 l) (.int .i64 w) (.slice A3 rs.length c3) rs.length (rodsC rs) (.slice Am ms.length cm) ms from ⟨HN8.out.below hb7, ownsRow_le hm7 (by omega)⟩)
          have Hz7 := Lib.hid ((hb7.block _ (blk_ltN HZ.out)).trans HZ.out)
          have HL := Lib.hid (HLz.out.put Hz7.out (by omega) (by omega) (.int .i64 u') (.int .i64 l') (.int .i64 w') (.slice A7 rs'.length c7))
          clear ho7 hm7 hb7 HN8 m0 m1 m2 m3 hml hl10 HZ
          obtain ⟨⟨m0, m1, m2, m3⟩, _⟩ := blk4 HLz.out.c.hq
          obtain ⟨⟨z0, z1, z2, z3⟩, x0, x1, x2, x3⟩ := blk4 Hz7.out
          clear HLz Hz7
          (try go_wp2_with fail)
          refine hKq.out _ _ (⟨m0, m1, m2, m3⟩) (fun hHeld => ?_)
          clear hKq Kq
          (try simp only [Act.put, List.setIfInBounds_toArray, List.set_cons_zero, List.set_cons_succ])
          refine take_F (i := 4) (d := some 17) (v := ?_) (by kernel_rfl) (by kernel_rfl) rfl rfl (by kernel_rfl) (by kernel_rfl) (by kernel_rfl) (fun _ _ _ h => h) (Or.inl ⟨by rfl, ?_⟩) (by assumption) ?_
          rotate_left
          · (intro w hSw; (try dsimp only at hSw); go_simp; (try rw [if_neg (by omega)]); (try (with_reducible rfl)))
          simp only [Act.put, List.setIfInBounds_toArray, List.set_cons_zero, List.set_cons_succ]
          refine take_F (i := 5) (d := some 22) (v := ?_) (by kernel_rfl) (by kernel_rfl) rfl rfl (by kernel_rfl) (by kernel_rfl) (by kernel_rfl) (fun _ _ _ h => h) (Or.inl ⟨by rfl, ?_⟩) (by assumption) ?_
          rotate_left
          · (intro w hSw; (try dsimp only at hSw); go_simp; (try rw [if_neg (by omega)]); (try (with_reducible rfl)))
          simp only [Act.put, List.setIfInBounds_toArray, List.set_cons_zero, List.set_cons_succ]
          refine take_F (i := 6) (d := some 23) (v := ?_) (by kernel_rfl) (by kernel_rfl) rfl rfl (by kernel_rfl) (by kernel_rfl) (by kernel_rfl) (fun _ _ _ h => h) (Or.inl ⟨by rfl, ?_⟩) (by assumption) ?_
          rotate_left
          · (intro w hSw; (try dsimp only at hSw); go_simp; (try rw [if_neg (by omega)]); (try (with_reducible rfl)))
          simp only [Act.put, List.setIfInBounds_toArray, List.set_cons_zero, List.set_cons_succ]
          refine take_F (i := 7) (d := some 24) (v := ?_) (by kernel_rfl) (by kernel_rfl) rfl rfl (by kernel_rfl) (by kernel_rfl) (by kernel_rfl) (fun _ _ _ h => h) (Or.inl ⟨by rfl, ?_⟩) (by assumption) ?_
          rotate_left
          · (intro w hSw; (try dsimp only at hSw); go_simp; (try rw [if_neg (by omega)]); (try (with_reducible rfl)))
          simp only [Act.put, List.setIfInBounds_toArray, List.set_cons_zero, List.set_cons_succ]
          refine late_L (i := 9) (d := none) (by kernel_rfl) rfl rfl (by kernel_rfl) (fun Kq hKq => ?_)
          go_simp
          refine hKq.out _ _ ?_
          clear hKq Kq
          refine late_L (i := 10) (d := (some 7)) (by kernel_rfl) rfl rfl (by kernel_rfl) (fun Kq hKq => ?_)
          go_simp
          refine hKq.out _ _ ?_
          clear hKq Kq
          refine late_L (i := 11) (d := (some 8)) (by kernel_rfl) rfl rfl (by kernel_rfl) (fun Kq hKq => ?_)
          go_simp
          refine hKq.out _ _ ?_
          clear hKq Kq
          refine done_L (by kernel_rfl) ?_ _
          refine NoPanic.normal ?_
          by_cases e0 : cd = 0
          · subst e0
            obtain ⟨⟨m0, m1, m2, m3⟩, _⟩ := blk4 HL.out.c.hq
            obtain ⟨⟨r0, r1, r2, r3⟩, s0, s1, s2, s3⟩ := blk4 HL.out.c.hr
            have hrg := HL.out.c.rg
            have HD := Lib.hid (doneA HL.out.c.hr HL.out.c.bel (Nat.le_refl _) HL.out.c.row (by omega) (.int .i64 u) (.int .i64 l) (.int .i64 w) (.slice A3 rs.length c3))
            have hne := own_neT HL.out.mv HL.out.c.hr (by decide)
            have HMv := Lib.hid (Rd.of_own (ownsRow_setCell_other (ownsRow_setCell_other (ownsRow_setCell_other (ownsRow_setCell_other HL.out.mv (a := ⟨W.heap.size, 0, none⟩) hne (.int .i64 u)) (a := ⟨W.heap.size, 1, none⟩) hne (.int .i64 l)) (a := ⟨W.heap.size, 2, none⟩) hne (.int .i64 w)) (a := ⟨W.heap.size, 3, none⟩) hne (.slice A3 rs.length c3)))
            clear HL hrg hne
            go_wp2_with fail
            obtain ⟨⟨k0, k1, k2, k3⟩, hbz, hoz⟩ := HD.out
            refine bodyPost_ret (v := .tuple #[aggAb u l w (.slice A3 rs.length c3), .slice Am ms.length cm]) (by simp [results, Try.results11, go_sem, k0, k1, k2, k3]) rfl ?_
            exact ⟨⟨u, l, w, rs⟩, _, _, ms, rfl, hrl, by omega, hoz, HMv.out, hbz⟩
          · have b0 : (cd == 0) = false := by simpa using e0
            go_wp2_with fail
            go_meet
            exact HL.out.c.more (by omega)
      · go_simp
        have hbz := ((Below.refl w5.heap.size w5).alloc (Nat.le_refl _) (.cells #[.int .i64 0, .int .i64 0, .int .i64 0, .slice none 0 0] 26)).drew
        have HN8 := Lib.hid (HN5.out.below hbz)
        have HZ8 := Lib.hid (show (w5.alloc (.cells #[.int .i64 0, .int .i64 0, .int .i64 0, .slice none 0 0] 26)).drew.heap[w5.heap.size]? = _ from heap_alloc_new w5 (.cells #[.int .i64 0, .int .i64 0, .int .i64 0, .slice none 0 0] 26))
        have hqz : q < w5.heap.size := blk_ltN HN5.out.hq
        have hgq := HN5.out.gq
        obtain ⟨⟨n0, n1, n2, n3⟩, _⟩ := blk4 HN8.out.hq
        clear hbz HN5 p0 p1 p2 p3
        refine hKq.out _ _ (⟨n0, n1, n2, n3⟩) (fun hHeld => ?_)
        clear hKq Kq
        (try simp only [Act.put, List.setIfInBounds_toArray, List.set_cons_zero, List.set_cons_succ])
        generalize (w5.alloc (.cells #[.int .i64 0, .int .i64 0, .int .i64 0, .slice none 0 0] 26)).drew = w8 at *
        generalize w5.heap.size = qz at *
        refine call_L (i := 2) (d := (some 20)) rfl rfl (by kernel_rfl) (fun Kq hKq => ?_)
        go_simp
        go_at_call 77
        refine (pick_any B _ _ bs 900 w8 HN8.out.src (by omega)).mono ?_; rintro e w6 ⟨val, rfl, _, hs6, hg6⟩
        have HN6 := Lib.hid (HN8.out.draw hs6 hg6)
        have HZ := Lib.hid ((hg6.block _ (blk_ltN HZ8.out) (fun e => by injection e; omega)).trans HZ8.out)
        obtain ⟨⟨m0, m1, m2, m3⟩, _⟩ := blk4 HN6.out.hq
        clear hs6 hg6 HN8 HZ8 n0 n1 n2 n3
        (try go_wp2_with fail)
        refine hKq.out _ _ (⟨m0, m1, m2, m3⟩) (fun hHeld => ?_)
        clear hKq Kq
        (try simp only [Act.put, List.setIfInBounds_toArray, List.set_cons_zero, List.set_cons_succ])
        refine call_L (i := 3) (d := (some 21)) rfl rfl (by kernel_rfl) (fun Kq hKq => ?_)
        go_simp
        go_at_call 10
        refine (AddS_any w6.heap.size u l w val (.slice A3 rs.length c3) rs w6 (Rd.of_own HN6.out.row) (Nat.le_refl _) (by omega)).mono ?_; rintro e w7 ⟨v', vl, rfl, ho7, hm7, hb7⟩
        obtain ⟨hl10, hml⟩ := addV_len ⟨u, l, w, rs⟩ val
        generalize addV ⟨u, l, w, rs⟩ val = X at *
        obtain ⟨⟨u', l', w', rs'⟩, ms, cd⟩ := X
        obtain ⟨Am, cm, rfl⟩ := own_sl hm7
        obtain ⟨A7, c7, rfl⟩ := own_sl ho7
        have hml2 : ms.length ≤ 130 := hml
        have hw8 := blk_ltN HN6.out.hq
        have HLz := Lib.hid (show CdL W w7 B w1.heap.size _ bs q (.int .i64 u) (.int .i64 l) (.int .i64 w) (.slice A3 rs.length c3) rs.length (rodsC rs) (.slice Am ms.length cm) ms from ⟨HN6.out.below hb7, ownsRow_le hm7 (by omega)⟩)
        have Hz7 := Lib.hid ((hb7.block _ (blk_ltN HZ.out)).trans HZ.out)
        have HL := Lib.hid (HLz.out.put Hz7.out (by omega) (by omega) (.int .i64 u') (.int .i64 l') (.int .i64 w') (.slice A7 rs'.length c7))
        clear ho7 hm7 hb7 HN6 m0 m1 m2 m3 hml hl10 HZ
        obtain ⟨⟨m0, m1, m2, m3⟩, _⟩ := blk4 HLz.out.c.hq
        obtain ⟨⟨z0, z1, z2, z3⟩, x0, x1, x2, x3⟩ := blk4 Hz7.out
        clear HLz Hz7
        (try go_wp2_with fail)
        refine hKq.out _ _ (⟨m0, m1, m2, m3⟩) (fun hHeld => ?_)
        clear hKq Kq
        (try simp only [Act.put, List.setIfInBounds_toArray, List.set_cons_zero, List.set_cons_succ])
        refine take_F (i := 4) (d := some 17) (v := ?_) (by kernel_rfl) (by kernel_rfl) rfl rfl (by kernel_rfl) (by kernel_rfl) (by kernel_rfl) (fun _ _ _ h => h) (Or.inl ⟨by rfl, ?_⟩) (by assumption) ?_
        rotate_left
        · (intro w hSw; (try dsimp only at hSw); go_simp; (try rw [if_neg (by omega)]); (try (with_reducible rfl)))
        simp only [Act.put, List.setIfInBounds_toArray, List.set_cons_zero, List.set_cons_succ]
        refine take_F (i := 5) (d := some 22) (v := ?_) (by kernel_rfl) (by kernel_rfl) rfl rfl (by kernel_rfl) (by kernel_rfl) (by kernel_rfl) (fun _ _ _ h => h) (Or.inl ⟨by rfl, ?_⟩) (by assumption) ?_
        rotate_left
        · (intro w hSw; (try dsimp only at hSw); go_simp; (try rw [if_neg (by omega)]); (try (with_reducible rfl)))
        simp only [Act.put, List.setIfInBounds_toArray, List.set_cons_zero, List.set_cons_succ]
        refine take_F (i := 6) (d := some 23) (v := ?_) (by kernel_rfl) (by kernel_rfl) rfl rfl (by kernel_rfl) (by kernel_rfl) (by kernel_rfl) (fun _ _ _ h => h) (Or.inl ⟨by rfl, ?_⟩) (by assumption) ?_
        rotate_left
        · (intro w hSw; (try dsimp only at hSw); go_simp; (try rw [if_neg (by omega)]); (try (with_reducible rfl)))
        simp only [Act.put, List.setIfInBounds_toArray, List.set_cons_zero, List.set_cons_succ]
        refine take_F (i := 7) (d := some 24) (v := ?_) (by kernel_rfl) (by kernel_rfl) rfl rfl (by kernel_rfl) (by kernel_rfl) (by kernel_rfl) (fun _ _ _ h => h) (Or.inl ⟨by rfl, ?_⟩) (by assumption) ?_
        rotate_left
        · (intro w hSw; (try dsimp only at hSw); go_simp; (try rw [if_neg (by omega)]); (try (with_reducible rfl)))
        simp only [Act.put, List.setIfInBounds_toArray, List.set_cons_zero, List.set_cons_succ]
        refine late_L (i := 9) (d := none) (by kernel_rfl) rfl rfl (by kernel_rfl) (fun Kq hKq => ?_)
        go_simp
        refine hKq.out _ _ ?_
        clear hKq Kq
        refine late_L (i := 10) (d := (some 7)) (by kernel_rfl) rfl rfl (by kernel_rfl) (fun Kq hKq => ?_)
        go_simp
        refine hKq.out _ _ ?_
        clear hKq Kq
        refine late_L (i := 11) (d := (some 8)) (by kernel_rfl) rfl rfl (by kernel_rfl) (fun Kq hKq => ?_)
        go_simp
        refine hKq.out _ _ ?_
        clear hKq Kq
        refine done_L (by kernel_rfl) ?_ _
        refine NoPanic.normal ?_
        by_cases e0 : cd = 0
        · subst e0
          obtain ⟨⟨m0, m1, m2, m3⟩, _⟩ := blk4 HL.out.c.hq
          obtain ⟨⟨r0, r1, r2, r3⟩, s0, s1, s2, s3⟩ := blk4 HL.out.c.hr
          have hrg := HL.out.c.rg
          have HD := Lib.hid (doneA HL.out.c.hr HL.out.c.bel (Nat.le_refl _) HL.out.c.row (by omega) (.int .i64 u) (.int .i64 l) (.int .i64 w) (.slice A3 rs.length c3))
          have hne := own_neT HL.out.mv HL.out.c.hr (by decide)
          have HMv := Lib.hid (Rd.of_own (ownsRow_setCell_other (ownsRow_setCell_other (ownsRow_setCell_other (ownsRow_setCell_other HL.out.mv (a := ⟨W.heap.size, 0, none⟩) hne (.int .i64 u)) (a := ⟨W.heap.size, 1, none⟩) hne (.int .i64 l)) (a := ⟨W.heap.size, 2, none⟩) hne (.int .i64 w)) (a := ⟨W.heap.size, 3, none⟩) hne (.slice A3 rs.length c3)))
          clear HL hrg hne
          go_wp2_with fail
          obtain ⟨⟨k0, k1, k2, k3⟩, hbz, hoz⟩ := HD.out
          refine bodyPost_ret (v := .tuple #[aggAb u l w (.slice A3 rs.length c3), .slice Am ms.length cm]) (by simp [results, Try.results11, go_sem, k0, k1, k2, k3]) rfl ?_
          exact ⟨⟨u, l, w, rs⟩, _, _, ms, rfl, hrl, by omega, hoz, HMv.out, hbz⟩
        · have b0 : (cd == 0) = false := by simpa using e0
          go_wp2_with fail
          go_meet
          exact HL.out.c.more (by omega)
  case rest =>
    rename World => wx
    have HN := Lib.hid hcut
    clear hcut
    go_upto_region 8 with (fail)
    have hbm := (Below.refl wx.heap.size wx).alloc (Nat.le_refl _) (.cells #[] 37)
    have HL0 := Lib.hid (show CdL W (wx.alloc (.cells #[] 37)) B w1.heap.size _ bs q (.int .i64 u) (.int .i64 l) (.int .i64 w) (.slice A3 rs.length c3) rs.length (rodsC rs) (.slice (some ⟨wx.heap.size, 0, none⟩) 0 0) [] from ⟨HN.out.below hbm, World.ownsRow_made (base := w1.heap.size + 1) (e := 37) (size := 3) wx #[] 0 (by have := HN.out.gq; have := blk_ltN HN.out.hq; omega) (by simp [maxLen]) rfl⟩)
    clear hbm HN
    generalize wx.alloc (.cells #[] 37) = w5 at *
    generalize wx.heap.size = qm at *
    go_wp2_with fail
    refine (pick_any B _ _ bs 6 w5 HL0.out.c.src (by omega)).mono ?_; rintro e w6 ⟨n, rfl, ⟨n0, n1, _⟩, hs6, hg6⟩
    have n2 := n1 (by omega)
    have HL6 := Lib.hid (HL0.out.draw hs6 hg6)
    clear hs6 hg6 HL0 n1
    go_wp2_with fail
    go_loopw [9, 10] (fun o i wr => ∃ (ms : List Mv) (x : Nat), i = .int .i64 (x : Int) ∧ ms.length + x ≤ 6 ∧ CdL W wr B w1.heap.size (102 + 10 * ms.length) bs q (.int .i64 u) (.int .i64 l) (.int .i64 w) (.slice A3 rs.length c3) rs.length (rodsC rs) o ms) (fun _ i _ => (intOf i).toNat)
    case atStart => exact ⟨[], n.toNat, by rw [Int.toNat_of_nonneg n0], by simp; omega, HL6.out⟩
    case round =>
      obtain ⟨ms, x, rfl, hmx, hL⟩ := hrel
      have HL := Lib.hid hL
      clear hL HL6
      obtain ⟨Am, cm, rfl⟩ := own_sl HL.out.mv
      by_cases hx0 : x = 0
      · subst hx0
        have h1 : ¬ (0 : Int) < ((0 : Nat) : Int) := by omega
        obtain ⟨⟨m0, m1, m2, m3⟩, _⟩ := blk4 HL.out.c.hq
        obtain ⟨⟨r0, r1, r2, r3⟩, s0, s1, s2, s3⟩ := blk4 HL.out.c.hr
        have hrg := HL.out.c.rg
        have HD := Lib.hid (doneA HL.out.c.hr HL.out.c.bel (Nat.le_refl _) HL.out.c.row (by omega) (.int .i64 u) (.int .i64 l) (.int .i64 w) (.slice A3 rs.length c3))
        have hne := own_neT HL.out.mv HL.out.c.hr (by decide)
        have HMv := Lib.hid (Rd.of_own (ownsRow_setCell_other (ownsRow_setCell_other (ownsRow_setCell_other (ownsRow_setCell_other HL.out.mv (a := ⟨W.heap.size, 0, none⟩) hne (.int .i64 u)) (a := ⟨W.heap.size, 1, none⟩) hne (.int .i64 l)) (a := ⟨W.heap.size, 2, none⟩) hne (.int .i64 w)) (a := ⟨W.heap.size, 3, none⟩) hne (.slice A3 rs.length c3)))
        clear HL hrg hne
        go_wp2_with fail
        obtain ⟨⟨k0, k1, k2, k3⟩, hbz, hoz⟩ := HD.out
        refine bodyPost_ret (v := .tuple #[aggAb u l w (.slice A3 rs.length c3), .slice Am ms.length cm]) (by simp [results, Try.results11, go_sem, k0, k1, k2, k3]) rfl ?_
        exact ⟨⟨u, l, w, rs⟩, _, _, ms, rfl, hrl, by omega, hoz, HMv.out, hbz⟩
      · obtain ⟨j, rfl⟩ : ∃ j : Nat, x = j + 1 := ⟨x - 1, by omega⟩
        have e1 : ((j + 1 : Nat) : Int) = (j : Int) + 1 := by omega
        rw [e1]
        have h1 : (0 : Int) < (j : Int) + 1 := by omega
        have hwj : IntKind.i64.wrap ((j : Int) + 1 - 1) = (j : Int) := (IntWalk.i64_in _ (by omega)).trans (by omega)
        clear e1 hx0
        go_wp2_with fail
        refine (l03DrawMove_any B _ _ bs wr HL.out.c.src (by omega)).mono ?_; rintro e w8 ⟨⟨x0, x1, x2⟩, rfl, hs8, hg8⟩
        have HL8 := Lib.hid (HL.out.draw hs8 hg8)
        clear hs8 hg8 HL
        have hz8 : w1.heap.size + 1 ≤ w8.heap.size := by have := HL8.out.c.gq; have := blk_ltN HL8.out.c.hq; omega
        have Hown := Lib.hid HL8.out.mv
        have Hgl := Lib.hid (fun (v' : Value) (w' : World) (ho : w'.ownsRow (w1.heap.size + 1) 37 3 v' (ms.length + 1) (movesC ms ++ #[Value.int .i64 x0, .int .i64 x1, .int .i64 x2].toList)) hg => HL8.out.app (ms' := ms ++ [(x0, x1, x2)]) (by rw [List.length_append, movesC_snoc]; exact ho) hg)
        go_wp2_with (at_builtin; refine wpList_apd 29 37 _ 3 24 Try.underlying29 infoMv rfl (by omega) _ _ rfl rfl (w1.heap.size + 1) _ ms.length _ rfl Hown.out #[.int .i64 x0, .int .i64 x1, .int .i64 x2] 1 1 rfl rfl (by simp [Value.oneCell']) (by simp [maxLen]; omega) (by omega) hz8 ?_; intro v9 w9 hown9 hg9; have HL9 := Lib.hid (Hgl.out v9 w9 hown9 hg9); clear hown9 hg9)
        go_roundw
        case rel => exact ⟨ms ++ [(x0, x1, x2)], j, rfl, by rw [List.length_append]; show ms.length + 1 + j ≤ 6; omega, by
          have e : (ms ++ [(x0, x1, x2)]).length = ms.length + 1 := by rw [List.length_append]; rfl
          rw [e]
          exact ⟨HL9.out.c.more (by omega), HL9.out.mv⟩⟩
        case measure => first | (simp [intOf]; done) | (simp [intOf]; omega)
end Go.Proofs.Ytemcdmjnokpldaa
/- Beads: f6beads at rows that hold the same moves. -/
namespace Go.Proofs.Ytemcdmjnokpldaa
open Go.RowKit Go.Joins

theorem f6beads_same (B1 B2 : Nat) (v1 v2 : Value) (ms : List Mv) (w : World) (h1 : Rd w B1 v1 ms.length 3 (movesC ms)) (h2 : Rd w B2 v2 ms.length 3 (movesC ms)) (hx : ms.length ≤ 1048576) :
    Calls Try.prog 21 #[v1, v2] w fun e w' => e = .returned (.bool true) ∧ ∃ n, w' = w.drewN n := by
  have H1 := Lib.hid h1
  have H2 := Lib.hid h2
  obtain ⟨_, A1, c1, rfl, _⟩ := h1
  obtain ⟨_, A2, c2, rfl, _⟩ := h2
  go_enter Try.func21, Try.ntmps21
  go_wp2_with fail
  go_loopw [5] (fun i wr => ∃ k : Nat, k ≤ ms.length ∧ i = .int .i64 (k : Int) ∧ ∃ n, wr = w.drewN n) (fun i _ => ms.length - (intOf i).toNat)
  case atStart => exact ⟨0, Nat.zero_le _, rfl, 0, rfl⟩
  case round =>
    obtain ⟨k, hk, rfl, n0, rfl⟩ := hrel
    by_cases hlt : k < ms.length
    · have hlt' : (k : Int) < (ms.length : Int) := by omega
      obtain ⟨b1, o1, hA1, _, p⟩ := moves_at H1.out (by omega)
      obtain ⟨b2, o2, hA2, _, q⟩ := moves_at H2.out (by omega)
      subst hA1 hA2
      obtain ⟨p0, p1, p2⟩ := p k hlt
      obtain ⟨q0, q1, q2⟩ := q k hlt
      have hkz : (0 : Int) ≤ (k : Int) := by omega
      generalize ms[k] = m at *
      obtain ⟨a, b, c⟩ := m
      dsimp only at p0 p1 p2 q0 q1 q2
      clear p q
      go_wp2_with fail
      go_quiet (fail)
      go_wp2_with fail
      go_roundw
      case rel => exact ⟨k + 1, by omega, by go_num, _, rfl⟩
      case measure => simp [intOf]; omega
    · have hlt' : (ms.length : Int) ≤ (k : Int) := by omega
      go_wp2_with fail
      go_ret
      exact ⟨rfl, n0, rfl⟩
end Go.Proofs.Ytemcdmjnokpldaa
/- Drums: names; lists that are equal. -/
namespace Go.Proofs.Ytemcdmjnokpldaa
open Go.RowKit Go.Joins

theorem ret_boolD {a b : Bool} (h : a = b) : Ending.returned (.bool a) = .returned (.bool b) := by rw [h]
theorem f6ints_sameD (B1 B2 : Nat) (v1 v2 : Value) (n : Nat) (f g : Nat → Int) (w : World) (h : Rd w B1 v1 n 1 (tab n f)) (h' : Rd w B2 v2 n 1 (tab n g)) (hn : n ≤ 1000) (he : ∀ i, i < n → f i = g i) :
    Calls Try.prog 37 #[v1, v2] w fun e w' => e = .returned (.bool true) ∧ ∃ k, w' = w.drewN k := by
  have H := Lib.hid h
  have H' := Lib.hid h'
  have HE := Lib.hid he
  obtain ⟨A, c, rfl⟩ := rd_sl h
  obtain ⟨A', c', rfl⟩ := rd_sl h'
  clear h h' he
  go_enter Try.func37, Try.ntmps37
  go_wp2_with fail
  go_loopw [5] (fun i wr => ∃ (k d : Nat), k ≤ n ∧ i = .int .i64 (k : Int) ∧ wr = w.drewN d) (fun i _ => n - (intOf i).toNat)
  case atStart => exact ⟨0, 0, Nat.zero_le _, rfl, rfl⟩
  case round =>
    obtain ⟨k, d, hk, rfl, rfl⟩ := hrel
    by_cases hlt : k < n
    · obtain ⟨b1, o1, hA, _, hcc⟩ := rdF_all H.out (by omega)
      obtain ⟨b2, o2, hA', _, hcc'⟩ := rdF_all H'.out (by omega)
      subst hA hA'
      have q0 := hcc k hlt
      have q1 := hcc' k hlt
      rw [← HE.out k hlt] at q1
      have hlt' : (k : Int) < (n : Int) := by omega
      generalize f k = x at *
      clear hcc hcc'
      go_wp2_with fail
      go_quiet (fail)
      go_wp2_with fail
      go_roundw
      case rel => exact ⟨k + 1, d + _, by omega, by go_num, rfl⟩
      case measure => first | (simp [intOf]; done) | (simp [intOf]; omega)
    · have hlt' : (n : Int) ≤ (k : Int) := by omega
      go_wp2_with fail
      go_ret
      exact ⟨rfl, d, rfl⟩
theorem f6big_D (B n : Nat) (v : Value) (xs : List Value) (w : World) (h : Rd w B v n 1 xs) : Calls Try.prog 7 #[v] w fun e w' => e = .returned (.bool (decide (4096 < n))) ∧ w = w' := by
  obtain ⟨A, c, rfl⟩ := rd_sl h
  clear h
  by_cases hc : 4096 < n
  · have h1 : (4096 : Int) < (n : Int) := by omega
    go_enter Try.func7, Try.ntmps7
    go_wp2_with fail
    go_ret
    exact ⟨ret_boolD (by simp [hc]), rfl⟩
  · have h1 : ¬ (4096 : Int) < (n : Int) := by omega
    go_enter Try.func7, Try.ntmps7
    go_wp2_with fail
    go_ret
    exact ⟨ret_boolD (by simp [hc]), rfl⟩
def nameDm (n : Int) : ByteArray := if n = 1 then ⟨#[115, 116, 101, 112, 112, 101, 100]⟩ else if n = 2 then ⟨#[112, 105, 110, 115]⟩ else if n = 3 then ⟨#[114, 97, 99, 107]⟩ else ⟨#[]⟩
theorem name_cases (n : Int) : n = 1 ∨ n = 2 ∨ n = 3 ∨ (n ≠ 1 ∧ n ≠ 2 ∧ n ≠ 3 ∧ inB n 1 3 = false ∧ nameDm n = ⟨#[]⟩) := by
  by_cases h1 : n = 1
  · exact .inl h1
  · by_cases h2 : n = 2
    · exact .inr (.inl h2)
    · by_cases h3 : n = 3
      · exact .inr (.inr (.inl h3))
      · refine .inr (.inr (.inr ⟨h1, h2, h3, ?_, by unfold nameDm; rw [if_neg h1, if_neg h2, if_neg h3]⟩))
        unfold inB
        simp
        omega
def nmS : List ByteArray := [⟨#[115, 116, 101, 112, 112, 101, 100]⟩, ⟨#[112, 105, 110, 115]⟩, ⟨#[114, 97, 99, 107]⟩]
theorem nm_new (w : World) (i : Nat) (z : ByteArray) (hz : nmS[i]? = some z) : (w.alloc (.cells #[.string ⟨#[115, 116, 101, 112, 112, 101, 100]⟩, .string ⟨#[112, 105, 110, 115]⟩, .string ⟨#[114, 97, 99, 107]⟩] 9)).cell? ⟨w.heap.size, i, none⟩ = some (.string z) := by
  have := new_cells w #[.string ⟨#[115, 116, 101, 112, 112, 101, 100]⟩, .string ⟨#[112, 105, 110, 115]⟩, .string ⟨#[114, 97, 99, 107]⟩] 9 i (.string z) (by
    have h := congrArg (fun o => o.map Value.string) hz
    rw [Option.map_some] at h
    rw [← h]
    rcases i with _ | _ | _ | i <;> simp [nmS])
  rwa [show (⟨w.heap.size, 0, none⟩ : Addr).add i = ⟨w.heap.size, i, none⟩ by unfold Addr.add; split <;> simp_all] at this
end Go.Proofs.Ytemcdmjnokpldaa
