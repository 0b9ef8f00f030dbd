/- Merged texts: Bd4, Bd5, Bd6, Bd7, Bd8. -/
import Derived.Test.YtemcdmjnokpldaaGLawBeads5
/- Beads: MoveBeads, impl; l03Move. -/
namespace Go.Proofs.Ytemcdmjnokpldaa
open Go.RowKit Go.Joins

def mvV (a : Ab) (m : Mv) : Ab × Int := if okAb a then mvA a m else (zeroAb, 1)
theorem mvA_len (a : Ab) (m : Mv) : (mvA a m).1.rods.length ≤ a.rods.length := by
  unfold mvA
  split
  · show (moveR a.rods m).length ≤ _
    rw [moveR_len]; exact Nat.le_refl _
  · exact Nat.zero_le _
set_option maxRecDepth 100000 in
set_option maxHeartbeats 1600000 in
theorem MoveI_any (B : Nat) (u l w : Int) (v : Value) (rs : List (Int × Int)) (m : Mv) (W : World) (h : Rd W B v rs.length 2 (rodsC rs)) (hB : B ≤ W.heap.size) (hm : rs.length ≤ 1048576) : Calls Try.prog 15 #[aggAb u l w v, aggMv m] W (RetAb W (mvV ⟨u, l, w, rs⟩ m)) := by
  have H := Lib.hid h
  obtain ⟨_, A, c, rfl, _⟩ := h
  obtain ⟨m0, m1, m2⟩ := m
  have hx := Mv3.made W u l w (.slice A rs.length c) (m0, m1, m2)
  have HV := Lib.hid (ValidAbI_any B u l w (.slice A rs.length c) rs _ (H.out.below (hx.bel.mono hB)) (Nat.le_trans hB hx.bel.size) hm)
  have HX := Lib.hid hx
  have HM := Lib.hid (fun hok wx hx hz => moved_any B u l w (.slice A rs.length c) rs (m0, m1, m2) wx hx hz hok)
  obtain ⟨c0, c1, c2, c3⟩ := four_at HX.out.box
  clear hx
  cases hok : okAb ⟨u, l, w, rs⟩
  · rw [hok] at HV
    have HR := Lib.hid (show mvV ⟨u, l, w, rs⟩ (m0, m1, m2) = (zeroAb, 1) by unfold mvV; rw [hok]; rfl)
    clear hok HM
    go_enter Try.func15, Try.ntmps15
    go_wp2_with fail
    refine HV.out.mono ?_; rintro e w2 ⟨rfl, hb2⟩
    have HX2 := HX.out.below hb2
    obtain ⟨⟨p0, p1, p2, p3⟩, f0, f1, f2, f3⟩ := blk4 HX2.res
    have HD := Lib.hid (HX2.done (.int .i64 0) (.int .i64 0) (.int .i64 0) (.slice none 0 0))
    clear hb2 HX2 c0 c1 c2 c3
    go_wp2_with fail
    obtain ⟨⟨k0, k1, k2, k3⟩, hbz⟩ := HD.out
    refine bodyPost_ret (v := .tuple #[aggAb 0 0 0 (.slice none 0 0), .int .i64 1]) (by simp [results, Try.results15, go_sem, k0, k1, k2, k3]) rfl ?_
    rw [HR.out]; exact ⟨_, rfl, own_nilAb _ _, hbz⟩
  rw [hok] at HV
  have HR := Lib.hid (show mvV ⟨u, l, w, rs⟩ (m0, m1, m2) = mvA ⟨u, l, w, rs⟩ (m0, m1, m2) by unfold mvV; rw [hok]; rfl)
  have HM2 := Lib.hid (HM.out hok)
  generalize mvA ⟨u, l, w, rs⟩ (m0, m1, m2) = x at *
  obtain ⟨⟨u', l', w', rs'⟩, cd⟩ := x
  clear hok HM
  go_enter Try.func15, Try.ntmps15
  go_wp2_with fail
  refine HV.out.mono ?_; rintro e w2 ⟨rfl, hb2⟩
  have HX2 := Lib.hid (HX.out.below hb2)
  have HC := Lib.hid (HM2.out w2 (H.out.below (HX2.out.bel.mono hB)) (Nat.le_trans hB HX2.out.bel.size))
  clear hb2 c0 c1 c2 c3
  obtain ⟨c0, c1, c2, c3⟩ := four_at HX2.out.box
  obtain ⟨d0, d1, d2⟩ := three_at HX2.out.mv
  dsimp only at d0 d1 d2
  go_wp2_with fail
  refine HC.out.mono ?_; rintro e w3 ⟨v3, rfl, ho3, hb3⟩
  have HX3 := HX2.out.below hb3
  obtain ⟨⟨p0, p1, p2, p3⟩, f0, f1, f2, f3⟩ := blk4 HX3.res
  have HD := Lib.hid (HX3.done (.int .i64 u') (.int .i64 l') (.int .i64 w') v3)
  have HO := Lib.hid (put4_own ho3 (show W.heap.size + 2 < w2.heap.size from blk_ltN HX2.out.res) (.int .i64 u') (.int .i64 l') (.int .i64 w') v3)
  have hbs := HX2.out.bel.size
  obtain ⟨A3, c3', rfl⟩ := own_sl ho3
  clear hb3 HX3 ho3 c0 c1 c2 c3 d0 d1 d2
  go_wp2_with fail
  obtain ⟨⟨k0, k1, k2, k3⟩, hbz⟩ := HD.out
  refine bodyPost_ret (v := .tuple #[aggAb u' l' w' (.slice A3 rs'.length c3'), .int .i64 cd]) (by simp [results, Try.results15, go_sem, k0, k1, k2, k3]) rfl ?_
  rw [HR.out]
  exact ⟨_, rfl, ownsRow_le HO.out hbs, hbz⟩
/-- an abacus in block q, its rods in a row of the call's own in block g -/
structure OwA (wx : World) (base q g cap : Nat) (u l w : Int) (cur : List (Int × Int)) : Prop where
  a : AbAt wx q u l w (.slice (some ⟨g, 0, none⟩) cur.length cap)
  row : wx.ownsRow base 98 2 (.slice (some ⟨g, 0, none⟩) cur.length cap) cur.length (rodsC cur)
  qg : q ≠ g
theorem OwA.below {wx wy : World} {base q g cap : Nat} {u l w : Int} {cur : List (Int × Int)} (h : OwA wx base q g cap u l w cur) (hb : Below wx.heap.size wx wy) : OwA wy base q g cap u l w cur :=
  ⟨h.a.below (World.block_lt_of_cell? wx _ h.a.c0) hb, own_below h.row hb, h.qg⟩
theorem OwA.put {wx : World} {base q g cap : Nat} {u l w : Int} {cur : List (Int × Int)} (h : OwA wx base q g cap u l w cur) {k : Nat} (hk : k < cur.length) (a b : Int) : OwA ((wx.setCell ⟨g, k * 2, none⟩ (.int .i64 a)).setCell ⟨g, k * 2 + 1, none⟩ (.int .i64 b)) base q g cap u l w (cur.set k (a, b)) := by
  have hl := rodsC_len cur
  have h1 := (own_put h.row (k * 2) (by omega) (.int .i64 a)).1
  have h2 := (own_put h1 (k * 2 + 1) (by rw [List.length_set]; omega) (.int .i64 b)).1
  rw [rodsC_set] at h2
  have e : (cur.set k (a, b)).length = cur.length := List.length_set
  refine ⟨?_, ?_, h.qg⟩
  · rw [e]; exact (h.a.setOther h.qg _).setOther h.qg _
  · rw [e]; exact h2
theorem OwA.pre {wx : World} {base q g cap : Nat} {u l w : Int} {cur : List (Int × Int)} (h : OwA wx base q g cap u l w cur) {k : Nat} (hk : k < cur.length) : (wx.cell? ⟨g, k * 2, none⟩ = some (.int .i64 (cur[k]).1) ∧ wx.cell? ⟨g, k * 2 + 1, none⟩ = some (.int .i64 (cur[k]).2)) ∧ wx.frozen? ⟨g, k * 2, none⟩ = false ∧ wx.frozen? ⟨g, k * 2 + 1, none⟩ = false := by
  have hl := rodsC_len cur
  obtain ⟨_, a1, a2⟩ := own_put h.row (k * 2) (by omega) undef
  obtain ⟨_, b1, b2⟩ := own_put h.row (k * 2 + 1) (by omega) undef
  obtain ⟨g1, g2⟩ := rodsC_get cur k hk
  rw [List.getElem?_eq_getElem (by omega)] at g1 g2
  injection g1 with g1
  injection g2 with g2
  exact ⟨⟨by rw [a1, g1], by rw [b1, g2]⟩, a2, b2⟩
/-- a move's block and a rod's block beside an abacus -/
structure Lm4 (W wx : World) (base q g cap : Nat) (u l w : Int) (cur : List (Int × Int)) (a b c : Value) (qr : Nat) (x y : Value) : Prop where
  own : OwA wx base q g cap u l w cur
  mb : wx.heap[W.heap.size]? = some (.cells #[a, b, c] 37 (0, 0))
  rod : wx.heap[qr]? = some (.cells #[x, y] 98 (0, 0))
  gr : W.grownBy wx (some g)
  gW : g < W.heap.size ∧ q < W.heap.size
  lr : W.heap.size < qr
section
variable {W wx wy : World} {base q g cap qr : Nat} {u l w : Int} {cur : List (Int × Int)} {a b c x y : Value}
theorem Lm4.below (h : Lm4 W wx base q g cap u l w cur a b c qr x y) (hb : Below wx.heap.size wx wy) : Lm4 W wy base q g cap u l w cur a b c qr x y :=
  ⟨h.own.below hb, (hb.block _ (blk_ltN h.mb)).trans h.mb, (hb.block _ (blk_ltN h.rod)).trans h.rod, grown_below h.gr hb, h.gW, h.lr⟩
theorem Lm4.made (h : OwA wx base q g cap u l w cur) (hg : g < W.heap.size ∧ q < W.heap.size) (hm : wx.heap[W.heap.size]? = some (.cells #[a, b, c] 37 (0, 0))) (gr : W.grownBy wx (some g)) (x y : Value) : Lm4 W (wx.alloc (.cells #[x, y] 98)).drew base q g cap u l w cur a b c wx.heap.size x y := by
  have hba := ((Below.refl wx.heap.size wx).alloc (Nat.le_refl _) (.cells #[x, y] 98)).drew
  exact ⟨h.below hba, (hba.block _ (blk_ltN hm)).trans hm, heap_alloc_new wx (.cells #[x, y] 98), grown_below gr hba, hg, blk_ltN hm⟩
theorem Lm4.setR (h : Lm4 W wx base q g cap u l w cur a b c qr x y) (i : Nat) (z x' y' : Value) (he : (#[x, y] : Array Value).setIfInBounds i z = #[x', y']) : Lm4 W (wx.setCell ⟨qr, i, none⟩ z) base q g cap u l w cur a b c qr x' y' := by
  have h1 := heap_setCell_same wx qr i _ _ z h.rod
  rw [he] at h1
  have hl := h.lr
  obtain ⟨hg, hq⟩ := h.gW
  refine ⟨⟨h.own.a.setOther (by omega) _, ownsRow_setCell_other h.own.row (a := ⟨qr, i, none⟩) (fun e => by have e2 : g = qr := (by injection e); omega) z, h.own.qg⟩, blk_setOther h.mb (by omega) _, h1, grown_setCell h.gr (p := ⟨qr, i, none⟩) (.inr (by show W.heap.size ≤ qr; omega)) z, h.gW, h.lr⟩
theorem Lm4.set0 (h : Lm4 W wx base q g cap u l w cur a b c qr x y) (z : Value) : Lm4 W (wx.setCell ⟨qr, 0, none⟩ z) base q g cap u l w cur a b c qr z y := h.setR 0 z z y rfl
theorem Lm4.set1 (h : Lm4 W wx base q g cap u l w cur a b c qr x y) (z : Value) : Lm4 W (wx.setCell ⟨qr, 1, none⟩ z) base q g cap u l w cur a b c qr x z := h.setR 1 z x z rfl
theorem Lm4.put (h : Lm4 W wx base q g cap u l w cur a b c qr x y) {k : Nat} (hk : k < cur.length) (i j : Int) : OwA ((wx.setCell ⟨g, k * 2, none⟩ (.int .i64 i)).setCell ⟨g, k * 2 + 1, none⟩ (.int .i64 j)) base q g cap u l w (cur.set k (i, j)) ∧ W.grownBy ((wx.setCell ⟨g, k * 2, none⟩ (.int .i64 i)).setCell ⟨g, k * 2 + 1, none⟩ (.int .i64 j)) (some g) :=
  ⟨h.own.put hk i j, grown_setCell (grown_setCell h.gr (p := ⟨g, k * 2, none⟩) (.inl rfl) _) (p := ⟨g, k * 2 + 1, none⟩) (.inl rfl) _⟩
end
/-- what l03Move leaves -/
def RetLm (wx : World) (base q g cap : Nat) (a : Ab) (m : Mv) (e : Ending) (wy : World) : Prop :=
  e = .returned (.int .i64 (moveC a a.rods m)) ∧ OwA wy base q g cap a.u a.l a.w (if moveC a a.rods m = 0 then moveR a.rods m else a.rods) ∧ wx.grownBy wy (some g)
set_option maxRecDepth 100000 in
set_option maxHeartbeats 6400000 in
theorem l03Move_any (base q g cap : Nat) (u l w : Int) (rs : List (Int × Int)) (m : Mv) (W : World) (h : OwA W base q g cap u l w rs) (hok : okAb ⟨u, l, w, rs⟩ = true) : Calls Try.prog 80 #[.pointer (some ⟨q, 0, none⟩), aggMv m] W (RetLm W base q g cap ⟨u, l, w, rs⟩ m) := by
  obtain ⟨hk1, _, hk3, hk4⟩ := okAb_and hok
  obtain ⟨u0, u4, l1, l12, _, _, _, _⟩ := kind_bd hk1
  dsimp only at hk3 hk4 u0 u4 l1 l12
  have HRb := Lib.hid (fun k (hk : k < rs.length) => rodOk_bd (ok_get hok hk))
  have hcs := moveC_cases ⟨u, l, w, rs⟩ rs m
  have HMC := Lib.hid (show ∀ c, moveC ⟨u, l, w, rs⟩ rs m = c → c ≠ 0 → ∀ wy, OwA wy base q g cap u l w rs → W.grownBy wy (some g) → RetLm W base q g cap ⟨u, l, w, rs⟩ m (.returned (.int .i64 c)) wy from fun c hc h0 wy h1 h2 => ⟨by rw [hc], by rw [if_neg (by rw [hc]; exact h0)]; exact h1, h2⟩)
  have HMY := Lib.hid (show moveC ⟨u, l, w, rs⟩ rs m = 0 → ∀ wy, OwA wy base q g cap u l w (moveR rs m) → W.grownBy wy (some g) → RetLm W base q g cap ⟨u, l, w, rs⟩ m (.returned (.int .i64 0)) wy from fun hc wy h1 h2 => ⟨by rw [hc], by rw [if_pos hc]; exact h1, h2⟩)
  obtain ⟨m0, m1, m2⟩ := m
  dsimp only at hcs HRb
  have hbm := (Below.refl W.heap.size W).alloc (Nat.le_refl _) (.cells #[.int .i64 m0, .int .i64 m1, .int .i64 m2] 37)
  have HX := Lib.hid (h.below hbm)
  have HMB := Lib.hid (heap_alloc_new W (.cells #[.int .i64 m0, .int .i64 m1, .int .i64 m2] 37))
  have HGr := Lib.hid (grown_of_below hbm (some g))
  have HI0 := Lib.hid (fun wx => flipC (l00In_any m0 0 ((rs.length : Int) - 1) wx))
  have HI1 := Lib.hid (fun wx => flipC (l00In_any m1 (-4) 4 wx))
  have HI2 := Lib.hid (fun wx => flipC (l00In_any m2 (-12) 12 wx))
  have hwl : IntKind.i64.wrap ((rs.length : Int) - 1) = (rs.length : Int) - 1 := IntWalk.i64_in _ (by omega)
  have hgW : g < W.heap.size ∧ q < W.heap.size := ⟨(h.row.lt g rfl).2, World.block_lt_of_cell? W _ h.a.c0⟩
  clear hok hk1 h hbm
  go_enter Try.func80, Try.ntmps80
  go_upto_region 1 with (fail)
  generalize W.alloc (.cells #[.int .i64 m0, .int .i64 m1, .int .i64 m2] 37) = w3 at *
  obtain ⟨c0, c1, c2, c3⟩ := HX.out.a
  obtain ⟨d0, d1, d2⟩ := three_at HMB.out
  have HXd := Lib.hid (fun n => (show OwA (w3.drewN n) base q g cap u l w rs from HX.out.below (below_drewN (Below.refl _ _) n)))
  rcases hcs with ⟨g0, gc⟩ | ⟨g0, g1, gc⟩ | ⟨g0, g1, g2, gc⟩ | ⟨g0, g1, g2, g3, gc⟩ | ⟨g0, g1, g2, g3, g4, gc⟩ | ⟨g0, g1, g2, g3, g4, gc⟩
  · have HR := Lib.hid (HMC.out 2 gc (by decide))
    rw [g0] at HI0
    clear g0 gc HMC HMY
    go_quiet ((go_at_call 72; first | (with_reducible exact Calls.quiet_of_same (HI0.out _)) | (with_reducible exact Calls.quiet_of_same (HI1.out _)) | (with_reducible exact Calls.quiet_of_same (HI2.out _))))
    go_wp2_with fail
    go_ret
    exact HR.out _ (HXd.out _) (grown_below HGr.out (below_drewN (Below.refl _ _) _))
  · have HR := Lib.hid (HMC.out 2 gc (by decide))
    rw [g0] at HI0
    rw [g1] at HI1
    clear g0 g1 gc HMC HMY
    go_quiet ((go_at_call 72; first | (with_reducible exact Calls.quiet_of_same (HI0.out _)) | (with_reducible exact Calls.quiet_of_same (HI1.out _)) | (with_reducible exact Calls.quiet_of_same (HI2.out _))))
    go_wp2_with fail
    go_ret
    exact HR.out _ (HXd.out _) (grown_below HGr.out (below_drewN (Below.refl _ _) _))
  · have HR := Lib.hid (HMC.out 2 gc (by decide))
    rw [g0] at HI0
    rw [g1] at HI1
    rw [g2] at HI2
    clear g0 g1 g2 gc HMC HMY
    go_quiet ((go_at_call 72; first | (with_reducible exact Calls.quiet_of_same (HI0.out _)) | (with_reducible exact Calls.quiet_of_same (HI1.out _)) | (with_reducible exact Calls.quiet_of_same (HI2.out _))))
    go_wp2_with fail
    go_ret
    exact HR.out _ (HXd.out _) (grown_below HGr.out (below_drewN (Below.refl _ _) _))
  · have HR := Lib.hid (HMC.out 6 gc (by decide))
    obtain ⟨k, rfl, hkl⟩ := in_k g0
    have hkt : ((k : Int)).toNat = k := Int.toNat_natCast _
    obtain ⟨⟨r0, r1⟩, _⟩ := HX.out.pre hkl
    have hlt' : (k : Int) < (rs.length : Int) := by omega
    have hxb := HRb.out k hkl
    have b1 := inB_bd g1
    have b2 := inB_bd g2
    rw [hkt, getD_atB hkl] at g3
    rw [g0] at HI0
    rw [g1] at HI1
    rw [g2] at HI2
    generalize hrk : rs[k] = x at *
    obtain ⟨x0, x1⟩ := x
    dsimp only at r0 r1 g3 hxb
    obtain ⟨y0, hy0⟩ : ∃ y, x0 + m1 = y := ⟨_, rfl⟩
    obtain ⟨y1, hy1⟩ : ∃ y, x1 + m2 = y := ⟨_, rfl⟩
    have hw1 : IntKind.i64.wrap (x0 + m1) = y0 := (IntWalk.i64_in _ (by omega)).trans hy0
    have hw2 : IntKind.i64.wrap (x1 + m2) = y1 := (IntWalk.i64_in _ (by omega)).trans hy1
    have HJ0 := Lib.hid (fun wx => flipC (l00In_any y0 0 u wx))
    have HJ1 := Lib.hid (fun wx => flipC (l00In_any y1 0 l wx))
    rw [hy0] at g3
    rw [g3] at HJ0
    have Hmr := Lib.hid (show moveR rs ((k : Int), m1, m2) = rs.set k (y0, y1) by unfold moveR; dsimp only; rw [hkt, getD_atB hkl, hrk]; dsimp only; rw [hy0, hy1])
    have HrkX := Lib.hid hrk
    clear g0 g1 g2 g3 gc b1 b2 hrk hy0 hy1 hkt  HRb HMC HMY
    go_quiet ((go_at_call 72; first | (with_reducible exact Calls.quiet_of_same (HI0.out _)) | (with_reducible exact Calls.quiet_of_same (HI1.out _)) | (with_reducible exact Calls.quiet_of_same (HI2.out _))))
    go_upto_region 3 with (fail)
    clear c0 c1 c2 c3 d0 d1 d2 r0 r1
    have hwq0 := below_drewN (Below.refl w3.heap.size w3) nq
    have HXq := Lib.hid (HX.out.below hwq0)
    have HMq := Lib.hid ((hwq0.block _ (blk_ltN HMB.out)).trans HMB.out)
    have HGq := Lib.hid (grown_below HGr.out hwq0)
    generalize w3.drewN nq = wq at *
    clear hwq0 HX HMB HGr HXd
    obtain ⟨c0, c1, c2, c3⟩ := HXq.out.a
    obtain ⟨d0, d1, d2⟩ := three_at HMq.out
    obtain ⟨⟨r0, r1⟩, _⟩ := HXq.out.pre hkl
    rw [HrkX.out] at r0 r1
    dsimp only at r0 r1
    have hba := (Below.refl wq.heap.size wq).alloc (Nat.le_refl _) (.cells #[.int .i64 0, .int .i64 0] 98)
    have hXa := HXq.out.below hba
    have c3' := hXa.a.c3
    have d0' := (three_at ((hba.block _ (blk_ltN HMq.out)).trans HMq.out)).1
    have r01 := (hXa.pre hkl).1
    rw [HrkX.out] at r01
    dsimp only at r01
    obtain ⟨o0, o1, t0, t1⟩ := blk2 (heap_alloc_new wq (.cells #[.int .i64 0, .int .i64 0] 98))
    clear hba hXa
    refine wp_region_noPanic ?_
    refine wp_region_L [9] (fun w' => w'.cell? ⟨q, 3, none⟩ = some (.slice (some ⟨g, 0, none⟩) rs.length cap) ∧ w'.cell? ⟨W.heap.size, 0, none⟩ = some (.int .i64 (k : Int)) ∧ w'.cell? ⟨g, k * 2, none⟩ = some (.int .i64 x0) ∧ w'.cell? ⟨g, k * 2 + 1, none⟩ = some (.int .i64 x1)) (by kernel_rfl) (⟨c3, d0, r0, r1⟩) (fun hHeld => ?_)
    refine take_F (i := 0) (d := some 28) (v := ?_) (by kernel_rfl) (by kernel_rfl) rfl rfl (by kernel_rfl) (by kernel_rfl) (by kernel_rfl) (fun _ _ _ h => h) (Or.inl ⟨by rfl, ?_⟩) (by assumption) ?_
    rotate_left
    · (intro w hSw; (try dsimp only at hSw); go_simp; (try rw [if_neg (by omega)]); (try (with_reducible rfl)))
    simp only [Act.put, List.setIfInBounds_toArray, List.set_cons_zero, List.set_cons_succ]
    refine take_F (i := 1) (d := some 29) (v := ?_) (by kernel_rfl) (by kernel_rfl) rfl rfl (by kernel_rfl) (by kernel_rfl) (by kernel_rfl) (fun _ _ _ h => h) (Or.inl ⟨by rfl, ?_⟩) (by assumption) ?_
    rotate_left
    · (intro w hSw; (try dsimp only at hSw); go_simp; (try rw [if_neg (by omega)]); (try (with_reducible rfl)))
    simp only [Act.put, List.setIfInBounds_toArray, List.set_cons_zero, List.set_cons_succ]
    refine take_F (i := 2) (d := some 30) (v := ?_) (by kernel_rfl) (by kernel_rfl) rfl rfl (by kernel_rfl) (by kernel_rfl) (by kernel_rfl) (fun _ _ _ h => h) (Or.inl ⟨by rfl, ?_⟩) (by assumption) ?_
    rotate_left
    · (intro w hSw; (try dsimp only at hSw); go_simp; (try rw [if_neg (by omega)]); (try (with_reducible rfl)))
    simp only [Act.put, List.setIfInBounds_toArray, List.set_cons_zero, List.set_cons_succ]
    refine take_L [3] (i := 3) (d := some 31) (v := ?_) (by kernel_rfl) (by kernel_rfl) (by kernel_rfl) (by kernel_rfl) rfl rfl (by kernel_rfl) (by kernel_rfl) (by kernel_rfl) (fun _ _ _ h => h) (Or.inl ⟨by rfl, ?_⟩) (by assumption) ?_
    rotate_left
    · (intro w hSw; (try dsimp only at hSw); go_simp; (try rw [if_neg (by omega)]); (try (with_reducible rfl)))
    simp only [Act.put, List.setIfInBounds_toArray, List.set_cons_zero, List.set_cons_succ]
    refine take_F (i := 4) (d := some 32) (v := ?_) (by kernel_rfl) (by kernel_rfl) rfl rfl (by kernel_rfl) (by kernel_rfl) (by kernel_rfl) (fun _ _ _ h => h) (Or.inl ⟨by rfl, ?_⟩) (by assumption) ?_
    rotate_left
    · (intro w hSw; (try dsimp only at hSw); go_simp; (try rw [if_neg (by omega)]); (try (with_reducible rfl)))
    simp only [Act.put, List.setIfInBounds_toArray, List.set_cons_zero, List.set_cons_succ]
    refine take_L [5] (i := 5) (d := some 33) (v := ?_) (by kernel_rfl) (by kernel_rfl) (by kernel_rfl) (by kernel_rfl) rfl rfl (by kernel_rfl) (by kernel_rfl) (by kernel_rfl) (fun _ _ _ h => h) (Or.inl ⟨by rfl, ?_⟩) (by assumption) ?_
    rotate_left
    · (intro w hSw; (try dsimp only at hSw); go_simp; (try rw [if_neg (by omega)]); (try (with_reducible rfl)))
    simp only [Act.put, List.setIfInBounds_toArray, List.set_cons_zero, List.set_cons_succ]
    refine take_F (i := 6) (d := some 34) (v := ?_) (by kernel_rfl) (by kernel_rfl) rfl rfl (by kernel_rfl) (by kernel_rfl) (by kernel_rfl) (fun _ _ _ h => h) (Or.inl ⟨by rfl, ?_⟩) (by assumption) ?_
    rotate_left
    · (intro w hSw; (try dsimp only at hSw); go_simp; (try rw [if_neg (by omega)]); (try (with_reducible rfl)))
    simp only [Act.put, List.setIfInBounds_toArray, List.set_cons_zero, List.set_cons_succ]
    refine take_L [7] (i := 7) (d := some 35) (v := ?_) (by kernel_rfl) (by kernel_rfl) (by kernel_rfl) (by kernel_rfl) rfl rfl (by kernel_rfl) (by kernel_rfl) (by kernel_rfl) (fun _ _ _ h => h) (Or.inl ⟨by rfl, ?_⟩) (by assumption) ?_
    rotate_left
    · (intro w hSw; (try dsimp only at hSw); go_simp; (try rw [if_neg (by omega)]); (try (with_reducible rfl)))
    simp only [Act.put, List.setIfInBounds_toArray, List.set_cons_zero, List.set_cons_succ]
    refine call_L (i := 8) (d := (some 5)) rfl rfl (by kernel_rfl) (fun Kq hKq => ?_)
    go_simp
    refine hKq.out _ _ (⟨c3', d0', r01.1, r01.2⟩) (fun hHeld => ?_)
    clear hKq Kq
    (try simp only [Act.put, List.setIfInBounds_toArray, List.set_cons_zero, List.set_cons_succ])
    clear c3' d0' r01 o0 o1 t0 t1
    obtain ⟨o0, o1, t0, t1⟩ := blk2 (heap_alloc_new wq (.cells #[.int .i64 0, .int .i64 0] 98))
    refine late_L (i := 9) (d := none) (by kernel_rfl) rfl rfl (by kernel_rfl) (fun Kq hKq => ?_)
    go_simp
    refine hKq.out _ _ ?_
    clear hKq Kq
    refine done_L (by kernel_rfl) ?_ _
    refine NoPanic.normal ?_
    go_upto_region 4 with (fail)
    have HL := Lib.hid (Lm4.made HXq.out hgW HMq.out HGq.out (.int .i64 x0) (.int .i64 x1))
    clear c0 c1 c2 c3 d0 d1 d2 r0 r1 o0 o1 t0 t1 HXq HMq HGq
    have hqrW := HL.out.lr
    generalize (wq.alloc (.cells #[.int .i64 x0, .int .i64 x1] 98)).drew = w5 at *
    generalize wq.heap.size = qr at *
    obtain ⟨o0, o1, t0, t1⟩ := blk2 HL.out.rod
    obtain ⟨d0, d1, d2⟩ := three_at HL.out.mb
    have HL6 := Lib.hid (HL.out.set0 (.int .i64 y0))
    go_upto_region 5 with (fail)
    generalize w5.setCell ⟨qr, 0, none⟩ (.int .i64 y0) = w6 at *
    clear o0 o1 t0 t1 d0 d1 d2 HL
    obtain ⟨o0, o1, t0, t1⟩ := blk2 HL6.out.rod
    obtain ⟨d0, d1, d2⟩ := three_at HL6.out.mb
    have HL7 := Lib.hid (HL6.out.set1 (.int .i64 y1))
    go_upto_region 6 with (fail)
    generalize w6.setCell ⟨qr, 1, none⟩ (.int .i64 y1) = w7 at *
    clear o0 o1 t0 t1 d0 d1 d2 HL6
    obtain ⟨o0, o1, _, _⟩ := blk2 HL7.out.rod
    obtain ⟨c0, c1, c2, c3⟩ := HL7.out.own.a
    go_quiet ((go_at_call 72; first | (with_reducible exact Calls.quiet_of_same (HJ0.out _)) | (with_reducible exact Calls.quiet_of_same (HJ1.out _))))
    go_wp2_with fail
    go_ret
    have hL8 := HL7.out.below (below_drewN (Below.refl w7.heap.size w7) nq)
    exact HR.out _ hL8.own hL8.gr
  · have HR := Lib.hid (HMC.out 6 gc (by decide))
    obtain ⟨k, rfl, hkl⟩ := in_k g0
    have hkt : ((k : Int)).toNat = k := Int.toNat_natCast _
    obtain ⟨⟨r0, r1⟩, _⟩ := HX.out.pre hkl
    have hlt' : (k : Int) < (rs.length : Int) := by omega
    have hxb := HRb.out k hkl
    have b1 := inB_bd g1
    have b2 := inB_bd g2
    rw [hkt, getD_atB hkl] at g3
    rw [hkt, getD_atB hkl] at g4
    rw [g0] at HI0
    rw [g1] at HI1
    rw [g2] at HI2
    generalize hrk : rs[k] = x at *
    obtain ⟨x0, x1⟩ := x
    dsimp only at r0 r1 g3 hxb
    obtain ⟨y0, hy0⟩ : ∃ y, x0 + m1 = y := ⟨_, rfl⟩
    obtain ⟨y1, hy1⟩ : ∃ y, x1 + m2 = y := ⟨_, rfl⟩
    have hw1 : IntKind.i64.wrap (x0 + m1) = y0 := (IntWalk.i64_in _ (by omega)).trans hy0
    have hw2 : IntKind.i64.wrap (x1 + m2) = y1 := (IntWalk.i64_in _ (by omega)).trans hy1
    have HJ0 := Lib.hid (fun wx => flipC (l00In_any y0 0 u wx))
    have HJ1 := Lib.hid (fun wx => flipC (l00In_any y1 0 l wx))
    rw [hy0] at g3
    rw [g3] at HJ0
    dsimp only at g4
    rw [hy1] at g4
    rw [g4] at HJ1
    have Hmr := Lib.hid (show moveR rs ((k : Int), m1, m2) = rs.set k (y0, y1) by unfold moveR; dsimp only; rw [hkt, getD_atB hkl, hrk]; dsimp only; rw [hy0, hy1])
    have HrkX := Lib.hid hrk
    clear g0 g1 g2 g3 gc b1 b2 hrk hy0 hy1 hkt g4 HRb HMC HMY
    go_quiet ((go_at_call 72; first | (with_reducible exact Calls.quiet_of_same (HI0.out _)) | (with_reducible exact Calls.quiet_of_same (HI1.out _)) | (with_reducible exact Calls.quiet_of_same (HI2.out _))))
    go_upto_region 3 with (fail)
    clear c0 c1 c2 c3 d0 d1 d2 r0 r1
    have hwq0 := below_drewN (Below.refl w3.heap.size w3) nq
    have HXq := Lib.hid (HX.out.below hwq0)
    have HMq := Lib.hid ((hwq0.block _ (blk_ltN HMB.out)).trans HMB.out)
    have HGq := Lib.hid (grown_below HGr.out hwq0)
    generalize w3.drewN nq = wq at *
    clear hwq0 HX HMB HGr HXd
    obtain ⟨c0, c1, c2, c3⟩ := HXq.out.a
    obtain ⟨d0, d1, d2⟩ := three_at HMq.out
    obtain ⟨⟨r0, r1⟩, _⟩ := HXq.out.pre hkl
    rw [HrkX.out] at r0 r1
    dsimp only at r0 r1
    have hba := (Below.refl wq.heap.size wq).alloc (Nat.le_refl _) (.cells #[.int .i64 0, .int .i64 0] 98)
    have hXa := HXq.out.below hba
    have c3' := hXa.a.c3
    have d0' := (three_at ((hba.block _ (blk_ltN HMq.out)).trans HMq.out)).1
    have r01 := (hXa.pre hkl).1
    rw [HrkX.out] at r01
    dsimp only at r01
    obtain ⟨o0, o1, t0, t1⟩ := blk2 (heap_alloc_new wq (.cells #[.int .i64 0, .int .i64 0] 98))
    clear hba hXa
    refine wp_region_noPanic ?_
    refine wp_region_L [9] (fun w' => w'.cell? ⟨q, 3, none⟩ = some (.slice (some ⟨g, 0, none⟩) rs.length cap) ∧ w'.cell? ⟨W.heap.size, 0, none⟩ = some (.int .i64 (k : Int)) ∧ w'.cell? ⟨g, k * 2, none⟩ = some (.int .i64 x0) ∧ w'.cell? ⟨g, k * 2 + 1, none⟩ = some (.int .i64 x1)) (by kernel_rfl) (⟨c3, d0, r0, r1⟩) (fun hHeld => ?_)
    refine take_F (i := 0) (d := some 28) (v := ?_) (by kernel_rfl) (by kernel_rfl) rfl rfl (by kernel_rfl) (by kernel_rfl) (by kernel_rfl) (fun _ _ _ h => h) (Or.inl ⟨by rfl, ?_⟩) (by assumption) ?_
    rotate_left
    · (intro w hSw; (try dsimp only at hSw); go_simp; (try rw [if_neg (by omega)]); (try (with_reducible rfl)))
    simp only [Act.put, List.setIfInBounds_toArray, List.set_cons_zero, List.set_cons_succ]
    refine take_F (i := 1) (d := some 29) (v := ?_) (by kernel_rfl) (by kernel_rfl) rfl rfl (by kernel_rfl) (by kernel_rfl) (by kernel_rfl) (fun _ _ _ h => h) (Or.inl ⟨by rfl, ?_⟩) (by assumption) ?_
    rotate_left
    · (intro w hSw; (try dsimp only at hSw); go_simp; (try rw [if_neg (by omega)]); (try (with_reducible rfl)))
    simp only [Act.put, List.setIfInBounds_toArray, List.set_cons_zero, List.set_cons_succ]
    refine take_F (i := 2) (d := some 30) (v := ?_) (by kernel_rfl) (by kernel_rfl) rfl rfl (by kernel_rfl) (by kernel_rfl) (by kernel_rfl) (fun _ _ _ h => h) (Or.inl ⟨by rfl, ?_⟩) (by assumption) ?_
    rotate_left
    · (intro w hSw; (try dsimp only at hSw); go_simp; (try rw [if_neg (by omega)]); (try (with_reducible rfl)))
    simp only [Act.put, List.setIfInBounds_toArray, List.set_cons_zero, List.set_cons_succ]
    refine take_L [3] (i := 3) (d := some 31) (v := ?_) (by kernel_rfl) (by kernel_rfl) (by kernel_rfl) (by kernel_rfl) rfl rfl (by kernel_rfl) (by kernel_rfl) (by kernel_rfl) (fun _ _ _ h => h) (Or.inl ⟨by rfl, ?_⟩) (by assumption) ?_
    rotate_left
    · (intro w hSw; (try dsimp only at hSw); go_simp; (try rw [if_neg (by omega)]); (try (with_reducible rfl)))
    simp only [Act.put, List.setIfInBounds_toArray, List.set_cons_zero, List.set_cons_succ]
    refine take_F (i := 4) (d := some 32) (v := ?_) (by kernel_rfl) (by kernel_rfl) rfl rfl (by kernel_rfl) (by kernel_rfl) (by kernel_rfl) (fun _ _ _ h => h) (Or.inl ⟨by rfl, ?_⟩) (by assumption) ?_
    rotate_left
    · (intro w hSw; (try dsimp only at hSw); go_simp; (try rw [if_neg (by omega)]); (try (with_reducible rfl)))
    simp only [Act.put, List.setIfInBounds_toArray, List.set_cons_zero, List.set_cons_succ]
    refine take_L [5] (i := 5) (d := some 33) (v := ?_) (by kernel_rfl) (by kernel_rfl) (by kernel_rfl) (by kernel_rfl) rfl rfl (by kernel_rfl) (by kernel_rfl) (by kernel_rfl) (fun _ _ _ h => h) (Or.inl ⟨by rfl, ?_⟩) (by assumption) ?_
    rotate_left
    · (intro w hSw; (try dsimp only at hSw); go_simp; (try rw [if_neg (by omega)]); (try (with_reducible rfl)))
    simp only [Act.put, List.setIfInBounds_toArray, List.set_cons_zero, List.set_cons_succ]
    refine take_F (i := 6) (d := some 34) (v := ?_) (by kernel_rfl) (by kernel_rfl) rfl rfl (by kernel_rfl) (by kernel_rfl) (by kernel_rfl) (fun _ _ _ h => h) (Or.inl ⟨by rfl, ?_⟩) (by assumption) ?_
    rotate_left
    · (intro w hSw; (try dsimp only at hSw); go_simp; (try rw [if_neg (by omega)]); (try (with_reducible rfl)))
    simp only [Act.put, List.setIfInBounds_toArray, List.set_cons_zero, List.set_cons_succ]
    refine take_L [7] (i := 7) (d := some 35) (v := ?_) (by kernel_rfl) (by kernel_rfl) (by kernel_rfl) (by kernel_rfl) rfl rfl (by kernel_rfl) (by kernel_rfl) (by kernel_rfl) (fun _ _ _ h => h) (Or.inl ⟨by rfl, ?_⟩) (by assumption) ?_
    rotate_left
    · (intro w hSw; (try dsimp only at hSw); go_simp; (try rw [if_neg (by omega)]); (try (with_reducible rfl)))
    simp only [Act.put, List.setIfInBounds_toArray, List.set_cons_zero, List.set_cons_succ]
    refine call_L (i := 8) (d := (some 5)) rfl rfl (by kernel_rfl) (fun Kq hKq => ?_)
    go_simp
    refine hKq.out _ _ (⟨c3', d0', r01.1, r01.2⟩) (fun hHeld => ?_)
    clear hKq Kq
    (try simp only [Act.put, List.setIfInBounds_toArray, List.set_cons_zero, List.set_cons_succ])
    clear c3' d0' r01 o0 o1 t0 t1
    obtain ⟨o0, o1, t0, t1⟩ := blk2 (heap_alloc_new wq (.cells #[.int .i64 0, .int .i64 0] 98))
    refine late_L (i := 9) (d := none) (by kernel_rfl) rfl rfl (by kernel_rfl) (fun Kq hKq => ?_)
    go_simp
    refine hKq.out _ _ ?_
    clear hKq Kq
    refine done_L (by kernel_rfl) ?_ _
    refine NoPanic.normal ?_
    go_upto_region 4 with (fail)
    have HL := Lib.hid (Lm4.made HXq.out hgW HMq.out HGq.out (.int .i64 x0) (.int .i64 x1))
    clear c0 c1 c2 c3 d0 d1 d2 r0 r1 o0 o1 t0 t1 HXq HMq HGq
    have hqrW := HL.out.lr
    generalize (wq.alloc (.cells #[.int .i64 x0, .int .i64 x1] 98)).drew = w5 at *
    generalize wq.heap.size = qr at *
    obtain ⟨o0, o1, t0, t1⟩ := blk2 HL.out.rod
    obtain ⟨d0, d1, d2⟩ := three_at HL.out.mb
    have HL6 := Lib.hid (HL.out.set0 (.int .i64 y0))
    go_upto_region 5 with (fail)
    generalize w5.setCell ⟨qr, 0, none⟩ (.int .i64 y0) = w6 at *
    clear o0 o1 t0 t1 d0 d1 d2 HL
    obtain ⟨o0, o1, t0, t1⟩ := blk2 HL6.out.rod
    obtain ⟨d0, d1, d2⟩ := three_at HL6.out.mb
    have HL7 := Lib.hid (HL6.out.set1 (.int .i64 y1))
    go_upto_region 6 with (fail)
    generalize w6.setCell ⟨qr, 1, none⟩ (.int .i64 y1) = w7 at *
    clear o0 o1 t0 t1 d0 d1 d2 HL6
    obtain ⟨o0, o1, _, _⟩ := blk2 HL7.out.rod
    obtain ⟨c0, c1, c2, c3⟩ := HL7.out.own.a
    go_quiet ((go_at_call 72; first | (with_reducible exact Calls.quiet_of_same (HJ0.out _)) | (with_reducible exact Calls.quiet_of_same (HJ1.out _))))
    go_wp2_with fail
    go_ret
    have hL8 := HL7.out.below (below_drewN (Below.refl w7.heap.size w7) nq)
    exact HR.out _ hL8.own hL8.gr
  · have HR := Lib.hid (HMY.out gc)
    obtain ⟨k, rfl, hkl⟩ := in_k g0
    have hkt : ((k : Int)).toNat = k := Int.toNat_natCast _
    obtain ⟨⟨r0, r1⟩, _⟩ := HX.out.pre hkl
    have hlt' : (k : Int) < (rs.length : Int) := by omega
    have hxb := HRb.out k hkl
    have b1 := inB_bd g1
    have b2 := inB_bd g2
    rw [hkt, getD_atB hkl] at g3
    rw [hkt, getD_atB hkl] at g4
    rw [g0] at HI0
    rw [g1] at HI1
    rw [g2] at HI2
    generalize hrk : rs[k] = x at *
    obtain ⟨x0, x1⟩ := x
    dsimp only at r0 r1 g3 hxb
    obtain ⟨y0, hy0⟩ : ∃ y, x0 + m1 = y := ⟨_, rfl⟩
    obtain ⟨y1, hy1⟩ : ∃ y, x1 + m2 = y := ⟨_, rfl⟩
    have hw1 : IntKind.i64.wrap (x0 + m1) = y0 := (IntWalk.i64_in _ (by omega)).trans hy0
    have hw2 : IntKind.i64.wrap (x1 + m2) = y1 := (IntWalk.i64_in _ (by omega)).trans hy1
    have HJ0 := Lib.hid (fun wx => flipC (l00In_any y0 0 u wx))
    have HJ1 := Lib.hid (fun wx => flipC (l00In_any y1 0 l wx))
    rw [hy0] at g3
    rw [g3] at HJ0
    dsimp only at g4
    rw [hy1] at g4
    rw [g4] at HJ1
    have Hmr := Lib.hid (show moveR rs ((k : Int), m1, m2) = rs.set k (y0, y1) by unfold moveR; dsimp only; rw [hkt, getD_atB hkl, hrk]; dsimp only; rw [hy0, hy1])
    have HrkX := Lib.hid hrk
    clear g0 g1 g2 g3 gc b1 b2 hrk hy0 hy1 hkt g4 HRb HMC HMY
    go_quiet ((go_at_call 72; first | (with_reducible exact Calls.quiet_of_same (HI0.out _)) | (with_reducible exact Calls.quiet_of_same (HI1.out _)) | (with_reducible exact Calls.quiet_of_same (HI2.out _))))
    go_upto_region 3 with (fail)
    clear c0 c1 c2 c3 d0 d1 d2 r0 r1
    have hwq0 := below_drewN (Below.refl w3.heap.size w3) nq
    have HXq := Lib.hid (HX.out.below hwq0)
    have HMq := Lib.hid ((hwq0.block _ (blk_ltN HMB.out)).trans HMB.out)
    have HGq := Lib.hid (grown_below HGr.out hwq0)
    generalize w3.drewN nq = wq at *
    clear hwq0 HX HMB HGr HXd
    obtain ⟨c0, c1, c2, c3⟩ := HXq.out.a
    obtain ⟨d0, d1, d2⟩ := three_at HMq.out
    obtain ⟨⟨r0, r1⟩, _⟩ := HXq.out.pre hkl
    rw [HrkX.out] at r0 r1
    dsimp only at r0 r1
    have hba := (Below.refl wq.heap.size wq).alloc (Nat.le_refl _) (.cells #[.int .i64 0, .int .i64 0] 98)
    have hXa := HXq.out.below hba
    have c3' := hXa.a.c3
    have d0' := (three_at ((hba.block _ (blk_ltN HMq.out)).trans HMq.out)).1
    have r01 := (hXa.pre hkl).1
    rw [HrkX.out] at r01
    dsimp only at r01
    obtain ⟨o0, o1, t0, t1⟩ := blk2 (heap_alloc_new wq (.cells #[.int .i64 0, .int .i64 0] 98))
    clear hba hXa
    refine wp_region_noPanic ?_
    refine wp_region_L [9] (fun w' => w'.cell? ⟨q, 3, none⟩ = some (.slice (some ⟨g, 0, none⟩) rs.length cap) ∧ w'.cell? ⟨W.heap.size, 0, none⟩ = some (.int .i64 (k : Int)) ∧ w'.cell? ⟨g, k * 2, none⟩ = some (.int .i64 x0) ∧ w'.cell? ⟨g, k * 2 + 1, none⟩ = some (.int .i64 x1)) (by kernel_rfl) (⟨c3, d0, r0, r1⟩) (fun hHeld => ?_)
    refine take_F (i := 0) (d := some 28) (v := ?_) (by kernel_rfl) (by kernel_rfl) rfl rfl (by kernel_rfl) (by kernel_rfl) (by kernel_rfl) (fun _ _ _ h => h) (Or.inl ⟨by rfl, ?_⟩) (by assumption) ?_
    rotate_left
    · (intro w hSw; (try dsimp only at hSw); go_simp; (try rw [if_neg (by omega)]); (try (with_reducible rfl)))
    simp only [Act.put, List.setIfInBounds_toArray, List.set_cons_zero, List.set_cons_succ]
    refine take_F (i := 1) (d := some 29) (v := ?_) (by kernel_rfl) (by kernel_rfl) rfl rfl (by kernel_rfl) (by kernel_rfl) (by kernel_rfl) (fun _ _ _ h => h) (Or.inl ⟨by rfl, ?_⟩) (by assumption) ?_
    rotate_left
    · (intro w hSw; (try dsimp only at hSw); go_simp; (try rw [if_neg (by omega)]); (try (with_reducible rfl)))
    simp only [Act.put, List.setIfInBounds_toArray, List.set_cons_zero, List.set_cons_succ]
    refine take_F (i := 2) (d := some 30) (v := ?_) (by kernel_rfl) (by kernel_rfl) rfl rfl (by kernel_rfl) (by kernel_rfl) (by kernel_rfl) (fun _ _ _ h => h) (Or.inl ⟨by rfl, ?_⟩) (by assumption) ?_
    rotate_left
    · (intro w hSw; (try dsimp only at hSw); go_simp; (try rw [if_neg (by omega)]); (try (with_reducible rfl)))
    simp only [Act.put, List.setIfInBounds_toArray, List.set_cons_zero, List.set_cons_succ]
    refine take_L [3] (i := 3) (d := some 31) (v := ?_) (by kernel_rfl) (by kernel_rfl) (by kernel_rfl) (by kernel_rfl) rfl rfl (by kernel_rfl) (by kernel_rfl) (by kernel_rfl) (fun _ _ _ h => h) (Or.inl ⟨by rfl, ?_⟩) (by assumption) ?_
    rotate_left
    · (intro w hSw; (try dsimp only at hSw); go_simp; (try rw [if_neg (by omega)]); (try (with_reducible rfl)))
    simp only [Act.put, List.setIfInBounds_toArray, List.set_cons_zero, List.set_cons_succ]
    refine take_F (i := 4) (d := some 32) (v := ?_) (by kernel_rfl) (by kernel_rfl) rfl rfl (by kernel_rfl) (by kernel_rfl) (by kernel_rfl) (fun _ _ _ h => h) (Or.inl ⟨by rfl, ?_⟩) (by assumption) ?_
    rotate_left
    · (intro w hSw; (try dsimp only at hSw); go_simp; (try rw [if_neg (by omega)]); (try (with_reducible rfl)))
    simp only [Act.put, List.setIfInBounds_toArray, List.set_cons_zero, List.set_cons_succ]
    refine take_L [5] (i := 5) (d := some 33) (v := ?_) (by kernel_rfl) (by kernel_rfl) (by kernel_rfl) (by kernel_rfl) rfl rfl (by kernel_rfl) (by kernel_rfl) (by kernel_rfl) (fun _ _ _ h => h) (Or.inl ⟨by rfl, ?_⟩) (by assumption) ?_
    rotate_left
    · (intro w hSw; (try dsimp only at hSw); go_simp; (try rw [if_neg (by omega)]); (try (with_reducible rfl)))
    simp only [Act.put, List.setIfInBounds_toArray, List.set_cons_zero, List.set_cons_succ]
    refine take_F (i := 6) (d := some 34) (v := ?_) (by kernel_rfl) (by kernel_rfl) rfl rfl (by kernel_rfl) (by kernel_rfl) (by kernel_rfl) (fun _ _ _ h => h) (Or.inl ⟨by rfl, ?_⟩) (by assumption) ?_
    rotate_left
    · (intro w hSw; (try dsimp only at hSw); go_simp; (try rw [if_neg (by omega)]); (try (with_reducible rfl)))
    simp only [Act.put, List.setIfInBounds_toArray, List.set_cons_zero, List.set_cons_succ]
    refine take_L [7] (i := 7) (d := some 35) (v := ?_) (by kernel_rfl) (by kernel_rfl) (by kernel_rfl) (by kernel_rfl) rfl rfl (by kernel_rfl) (by kernel_rfl) (by kernel_rfl) (fun _ _ _ h => h) (Or.inl ⟨by rfl, ?_⟩) (by assumption) ?_
    rotate_left
    · (intro w hSw; (try dsimp only at hSw); go_simp; (try rw [if_neg (by omega)]); (try (with_reducible rfl)))
    simp only [Act.put, List.setIfInBounds_toArray, List.set_cons_zero, List.set_cons_succ]
    refine call_L (i := 8) (d := (some 5)) rfl rfl (by kernel_rfl) (fun Kq hKq => ?_)
    go_simp
    refine hKq.out _ _ (⟨c3', d0', r01.1, r01.2⟩) (fun hHeld => ?_)
    clear hKq Kq
    (try simp only [Act.put, List.setIfInBounds_toArray, List.set_cons_zero, List.set_cons_succ])
    clear c3' d0' r01 o0 o1 t0 t1
    obtain ⟨o0, o1, t0, t1⟩ := blk2 (heap_alloc_new wq (.cells #[.int .i64 0, .int .i64 0] 98))
    refine late_L (i := 9) (d := none) (by kernel_rfl) rfl rfl (by kernel_rfl) (fun Kq hKq => ?_)
    go_simp
    refine hKq.out _ _ ?_
    clear hKq Kq
    refine done_L (by kernel_rfl) ?_ _
    refine NoPanic.normal ?_
    go_upto_region 4 with (fail)
    have HL := Lib.hid (Lm4.made HXq.out hgW HMq.out HGq.out (.int .i64 x0) (.int .i64 x1))
    clear c0 c1 c2 c3 d0 d1 d2 r0 r1 o0 o1 t0 t1 HXq HMq HGq
    have hqrW := HL.out.lr
    generalize (wq.alloc (.cells #[.int .i64 x0, .int .i64 x1] 98)).drew = w5 at *
    generalize wq.heap.size = qr at *
    obtain ⟨o0, o1, t0, t1⟩ := blk2 HL.out.rod
    obtain ⟨d0, d1, d2⟩ := three_at HL.out.mb
    have HL6 := Lib.hid (HL.out.set0 (.int .i64 y0))
    go_upto_region 5 with (fail)
    generalize w5.setCell ⟨qr, 0, none⟩ (.int .i64 y0) = w6 at *
    clear o0 o1 t0 t1 d0 d1 d2 HL
    obtain ⟨o0, o1, t0, t1⟩ := blk2 HL6.out.rod
    obtain ⟨d0, d1, d2⟩ := three_at HL6.out.mb
    have HL7 := Lib.hid (HL6.out.set1 (.int .i64 y1))
    go_upto_region 6 with (fail)
    generalize w6.setCell ⟨qr, 1, none⟩ (.int .i64 y1) = w7 at *
    clear o0 o1 t0 t1 d0 d1 d2 HL6
    obtain ⟨o0, o1, _, _⟩ := blk2 HL7.out.rod
    obtain ⟨c0, c1, c2, c3⟩ := HL7.out.own.a
    go_quiet ((go_at_call 72; first | (with_reducible exact Calls.quiet_of_same (HJ0.out _)) | (with_reducible exact Calls.quiet_of_same (HJ1.out _))))
    go_upto_region 8 with (fail)
    have HL8 := Lib.hid (HL7.out.below (below_drewN (Below.refl w7.heap.size w7) nq))
    generalize w7.drewN nq = w8 at *
    clear o0 o1 c0 c1 c2 c3 HL7
    obtain ⟨o0, o1, _, _⟩ := blk2 HL8.out.rod
    obtain ⟨c0, c1, c2, c3⟩ := HL8.out.own.a
    obtain ⟨d0, d1, d2⟩ := three_at HL8.out.mb
    obtain ⟨⟨r0, r1⟩, t0, t1⟩ := HL8.out.own.pre hkl
    have HL9 := Lib.hid (HL8.out.put hkl y0 y1)
    refine wp_region_noPanic ?_
    refine wp_region_L [8] (fun w' => w'.cell? ⟨q, 3, none⟩ = some (.slice (some ⟨g, 0, none⟩) rs.length cap) ∧ w'.cell? ⟨W.heap.size, 0, none⟩ = some (.int .i64 (k : Int)) ∧ w'.cell? ⟨qr, 0, none⟩ = some (.int .i64 y0) ∧ w'.cell? ⟨qr, 1, none⟩ = some (.int .i64 y1)) (by kernel_rfl) (⟨c3, d0, o0, o1⟩) (fun hHeld => ?_)
    refine take_F (i := 0) (d := some 66) (v := ?_) (by kernel_rfl) (by kernel_rfl) rfl rfl (by kernel_rfl) (by kernel_rfl) (by kernel_rfl) (fun _ _ _ h => h) (Or.inl ⟨by rfl, ?_⟩) (by assumption) ?_
    rotate_left
    · (intro w hSw; (try dsimp only at hSw); go_simp; (try rw [if_neg (by omega)]); (try (with_reducible rfl)))
    simp only [Act.put, List.setIfInBounds_toArray, List.set_cons_zero, List.set_cons_succ]
    refine take_F (i := 1) (d := some 67) (v := ?_) (by kernel_rfl) (by kernel_rfl) rfl rfl (by kernel_rfl) (by kernel_rfl) (by kernel_rfl) (fun _ _ _ h => h) (Or.inl ⟨by rfl, ?_⟩) (by assumption) ?_
    rotate_left
    · (intro w hSw; (try dsimp only at hSw); go_simp; (try rw [if_neg (by omega)]); (try (with_reducible rfl)))
    simp only [Act.put, List.setIfInBounds_toArray, List.set_cons_zero, List.set_cons_succ]
    refine take_F (i := 2) (d := some 68) (v := ?_) (by kernel_rfl) (by kernel_rfl) rfl rfl (by kernel_rfl) (by kernel_rfl) (by kernel_rfl) (fun _ _ _ h => h) (Or.inl ⟨by rfl, ?_⟩) (by assumption) ?_
    rotate_left
    · (intro w hSw; (try dsimp only at hSw); go_simp; (try rw [if_neg (by omega)]); (try (with_reducible rfl)))
    simp only [Act.put, List.setIfInBounds_toArray, List.set_cons_zero, List.set_cons_succ]
    refine take_L [3] (i := 3) (d := some 69) (v := ?_) (by kernel_rfl) (by kernel_rfl) (by kernel_rfl) (by kernel_rfl) rfl rfl (by kernel_rfl) (by kernel_rfl) (by kernel_rfl) (fun _ _ _ h => h) (Or.inl ⟨by rfl, ?_⟩) (by assumption) ?_
    rotate_left
    · (intro w hSw; (try dsimp only at hSw); go_simp; (try rw [if_neg (by omega)]); (try (with_reducible rfl)))
    simp only [Act.put, List.setIfInBounds_toArray, List.set_cons_zero, List.set_cons_succ]
    refine take_F (i := 4) (d := some 70) (v := ?_) (by kernel_rfl) (by kernel_rfl) rfl rfl (by kernel_rfl) (by kernel_rfl) (by kernel_rfl) (fun _ _ _ h => h) (Or.inl ⟨by rfl, ?_⟩) (by assumption) ?_
    rotate_left
    · (intro w hSw; (try dsimp only at hSw); go_simp; (try rw [if_neg (by omega)]); (try (with_reducible rfl)))
    simp only [Act.put, List.setIfInBounds_toArray, List.set_cons_zero, List.set_cons_succ]
    refine take_L [5] (i := 5) (d := some 71) (v := ?_) (by kernel_rfl) (by kernel_rfl) (by kernel_rfl) (by kernel_rfl) rfl rfl (by kernel_rfl) (by kernel_rfl) (by kernel_rfl) (fun _ _ _ h => h) (Or.inl ⟨by rfl, ?_⟩) (by assumption) ?_
    rotate_left
    · (intro w hSw; (try dsimp only at hSw); go_simp; (try rw [if_neg (by omega)]); (try (with_reducible rfl)))
    simp only [Act.put, List.setIfInBounds_toArray, List.set_cons_zero, List.set_cons_succ]
    refine take_L [6] (i := 6) (d := some 72) (v := ?_) (by kernel_rfl) (by kernel_rfl) (by kernel_rfl) (by kernel_rfl) rfl rfl (by kernel_rfl) (by kernel_rfl) (by kernel_rfl) (fun _ _ _ h => h) (Or.inl ⟨by rfl, ?_⟩) (by assumption) ?_
    rotate_left
    · (intro w hSw; (try dsimp only at hSw); go_simp; (try rw [if_neg (by omega)]); (try (with_reducible rfl)))
    simp only [Act.put, List.setIfInBounds_toArray, List.set_cons_zero, List.set_cons_succ]
    refine take_F (i := 7) (d := some 73) (v := ?_) (by kernel_rfl) (by kernel_rfl) rfl rfl (by kernel_rfl) (by kernel_rfl) (by kernel_rfl) (fun _ _ _ h => h) (Or.inl ⟨by rfl, ?_⟩) (by assumption) ?_
    rotate_left
    · (intro w hSw; (try dsimp only at hSw); go_simp; (try rw [if_neg (by omega)]); (try (with_reducible rfl)))
    simp only [Act.put, List.setIfInBounds_toArray, List.set_cons_zero, List.set_cons_succ]
    refine late_L (i := 8) (d := none) (by kernel_rfl) rfl rfl (by kernel_rfl) (fun Kq hKq => ?_)
    go_simp
    refine hKq.out _ _ ?_
    clear hKq Kq
    refine done_L (by kernel_rfl) ?_ _
    refine NoPanic.normal ?_
    go_wp2_with fail
    go_ret
    rw [← Hmr.out] at HL9
    generalize (w8.setCell ⟨g, k * 2, none⟩ (.int .i64 y0)).setCell ⟨g, k * 2 + 1, none⟩ (.int .i64 y1) = w9 at *
    first | exact HR.out _ HL9.out.1 HL9.out.2 | exact HR.out _ (HL9.out.1.below (Below.refl w9.heap.size w9).drew) (grown_below HL9.out.2 (Below.refl w9.heap.size w9).drew)
end Go.Proofs.Ytemcdmjnokpldaa
/- Beads: MoveBeads, spec; ReplayBeads, impl. -/
namespace Go.Proofs.Ytemcdmjnokpldaa
open Go.RowKit Go.Joins

theorem Mv3.grown {W wx wy : World} {u l w : Int} {v : Value} {m : Mv} {g : Nat} (h : Mv3 W wx u l w v m) (hg : wx.grownBy wy (some g)) (hl : W.heap.size + 2 < g) : Mv3 W wy u l w v m :=
  ⟨(hg.block _ (blk_ltN h.box) (fun e => by injection e; omega)).trans h.box, (hg.block _ (blk_ltN h.mv) (fun e => by injection e; omega)).trans h.mv, (hg.block _ (blk_ltN h.res) (fun e => by injection e; omega)).trans h.res, h.bel.grown hg h.bel.size (fun x hx => by cases hx; omega)⟩
set_option maxRecDepth 100000 in
set_option maxHeartbeats 3200000 in
theorem MoveS_any (B : Nat) (u l w : Int) (v : Value) (rs : List (Int × Int)) (m : Mv) (W : World) (h : Rd W B v rs.length 2 (rodsC rs)) (hB : B ≤ W.heap.size) (hm : rs.length ≤ 1048576) : Calls Try.prog 16 #[aggAb u l w v, aggMv m] W (RetAb W (mvV ⟨u, l, w, rs⟩ m)) := by
  have H := Lib.hid h
  obtain ⟨_, A, c, rfl, _⟩ := h
  obtain ⟨m0, m1, m2⟩ := m
  have hx := Mv3.made W u l w (.slice A rs.length c) (m0, m1, m2)
  have HV := Lib.hid (l03Ok_any W.heap.size B u l w (.slice A rs.length c) rs _ (AbAt.of hx.box) (H.out.below (hx.bel.mono hB)) hm)
  have HX := Lib.hid hx
  have HOw := Lib.hid (fun wx ha hx hz h0 => l03Own_any B W.heap.size rs.length u l w (.slice A rs.length c) (rodsC rs) wx ha hx hz h0 (by omega) (rodsC_one rs))
  have HM := Lib.hid (fun hok base q g cap wx hx => l03Move_any base q g cap u l w rs (m0, m1, m2) wx hx hok)
  clear hx
  cases hok : okAb ⟨u, l, w, rs⟩
  · rw [hok] at HV
    have HR := Lib.hid (show mvV ⟨u, l, w, rs⟩ (m0, m1, m2) = (zeroAb, 1) by unfold mvV; rw [hok]; rfl)
    clear hok HM
    go_enter Try.func16, Try.ntmps16
    go_wp2_with fail
    refine HV.out.mono ?_; rintro e w2 ⟨rfl, n2, hw2⟩
    have HX2 := HX.out.below (below_eqA hw2)
    obtain ⟨⟨p0, p1, p2, p3⟩, f0, f1, f2, f3⟩ := blk4 HX2.res
    have HD := Lib.hid (HX2.done (.int .i64 0) (.int .i64 0) (.int .i64 0) (.slice none 0 0))
    clear hw2 HX2
    go_wp2_with fail
    obtain ⟨⟨k0, k1, k2, k3⟩, hbz⟩ := HD.out
    refine bodyPost_ret (v := .tuple #[aggAb 0 0 0 (.slice none 0 0), .int .i64 1]) (by simp [results, Try.results16, go_sem, k0, k1, k2, k3]) rfl ?_
    rw [HR.out]; exact ⟨_, rfl, own_nilAb _ _, hbz⟩
  rw [hok] at HV
  have HR := Lib.hid (show mvV ⟨u, l, w, rs⟩ (m0, m1, m2) = mvA ⟨u, l, w, rs⟩ (m0, m1, m2) by unfold mvV; rw [hok]; rfl)
  have HM2 := Lib.hid (HM.out hok)
  have hk3 := (okAb_and hok).2.2.1
  dsimp only at hk3
  have HNo := Lib.hid (fun c h hc => mvA_no (a := ⟨u, l, w, rs⟩) (m := (m0, m1, m2)) (c := c) h hc)
  have HYes := Lib.hid (fun h => mvA_ok (a := ⟨u, l, w, rs⟩) (m := (m0, m1, m2)) h)
  clear hok HM
  go_enter Try.func16, Try.ntmps16
  go_wp2_with fail
  refine HV.out.mono ?_; rintro e w2 ⟨rfl, n2, hw2⟩
  have HX2 := Lib.hid (HX.out.below (below_eqA hw2))
  have HC := Lib.hid (HOw.out w2 (AbAt.of HX2.out.box) (H.out.below (HX2.out.bel.mono hB)) (Nat.le_trans hB HX2.out.bel.size) (by omega))
  clear hw2
  go_wp2_with fail
  refine HC.out.mono ?_; rintro e w3 ⟨g, cap, rfl, ho3, hb3⟩
  have hgl := (ho3.lt g rfl)
  have hl2 := blk_ltN HX2.out.res
  have hbm := (Below.refl w3.heap.size w3).alloc (Nat.le_refl _) (.cells #[.int .i64 u, .int .i64 l, .int .i64 w, .slice (some ⟨g, 0, none⟩) rs.length cap] 26)
  have HX4 := Lib.hid ((HX2.out.below hb3).below hbm)
  have HOA := Lib.hid (show OwA (w3.alloc (.cells #[.int .i64 u, .int .i64 l, .int .i64 w, .slice (some ⟨g, 0, none⟩) rs.length cap] 26)) w2.heap.size w3.heap.size g cap u l w rs from
    ⟨AbAt.of (heap_alloc_new w3 _), own_below ho3 hbm, by omega⟩)
  have hbs := HX2.out.bel.size
  go_upto_region 4 with (fail)
  generalize w3.alloc (.cells #[.int .i64 u, .int .i64 l, .int .i64 w, .slice (some ⟨g, 0, none⟩) rs.length cap] 26) = w4 at *
  have hq6 : w3.heap.size = w3.heap.size := rfl
  clear hq6 ho3 hb3 hbm
  generalize w3.heap.size = q6 at *
  obtain ⟨d0, d1, d2⟩ := three_at HX4.out.mv
  dsimp only at d0 d1 d2
  have HMv := Lib.hid (HM2.out _ _ _ _ w4 HOA.out)
  unfold RetLm at HMv
  dsimp only at HMv
  have hml := moveR_len rs (m0, m1, m2)
  generalize hmc : moveC ⟨u, l, w, rs⟩ rs (m0, m1, m2) = cd at *
  have Hmc := Lib.hid hmc
  clear hmc
  go_wp2_with fail
  refine HMv.out.mono ?_; rintro e w5 ⟨rfl, ho5, hg5⟩
  have HX5 := Lib.hid (HX4.out.grown hg5 (by omega))
  clear d0 d1 d2 hg5
  obtain ⟨⟨p0, p1, p2, p3⟩, f0, f1, f2, f3⟩ := blk4 HX5.out.res
  by_cases hz : cd = 0
  · subst hz
    rw [if_pos rfl] at ho5
    have HRa := Lib.hid (HYes.out rfl)
    obtain ⟨q0, q1, q2, q3⟩ := ho5.a
    have hrow := ho5.row
    rw [hml] at q3 hrow
    have HD := Lib.hid (HX5.out.done (.int .i64 u) (.int .i64 l) (.int .i64 w) (.slice (some ⟨g, 0, none⟩) rs.length cap))
    have HO := Lib.hid (put4_own hrow hl2 (.int .i64 u) (.int .i64 l) (.int .i64 w) (.slice (some ⟨g, 0, none⟩) rs.length cap))
    clear ho5 hrow hml
    go_wp2_with fail
    obtain ⟨⟨k0, k1, k2, k3⟩, hbz⟩ := HD.out
    refine bodyPost_ret (v := .tuple #[aggAb u l w (.slice (some ⟨g, 0, none⟩) rs.length cap), .int .i64 0]) (by simp [results, Try.results16, go_sem, k0, k1, k2, k3]) rfl ?_
    rw [HR.out, HRa.out]
    exact ⟨_, rfl, by show World.ownsRow _ _ _ _ _ (moveR rs (m0, m1, m2)).length _; rw [moveR_len]; exact ownsRow_le HO.out hbs, hbz⟩
  · have HRa := Lib.hid (HNo.out cd rfl hz)
    have hz' : (cd != 0) = true := by rw [bne_iff_ne]; exact hz
    have hz2 : (cd == 0) = false := by rw [beq_eq_false_iff_ne]; exact hz
    have HD := Lib.hid (HX5.out.done (.int .i64 0) (.int .i64 0) (.int .i64 0) (.slice none 0 0))
    clear ho5 hz
    go_wp2_with fail
    obtain ⟨⟨k0, k1, k2, k3⟩, hbz⟩ := HD.out
    refine bodyPost_ret (v := .tuple #[aggAb 0 0 0 (.slice none 0 0), .int .i64 cd]) (by simp [results, Try.results16, go_sem, k0, k1, k2, k3]) rfl ?_
    rw [HR.out, HRa.out]; exact ⟨_, rfl, own_nilAb _ _, hbz⟩
end Go.Proofs.Ytemcdmjnokpldaa
/- Beads: ReplayBeads, impl. -/
namespace Go.Proofs.Ytemcdmjnokpldaa
open Go.RowKit Go.Joins

theorem movesC_len (ms : List Mv) : (movesC ms).length = ms.length * 3 := by
  induction ms with
  | nil => rfl
  | cons r ms ih => show (cellsMv r ++ movesC ms).length = _; rw [List.length_append, ih]; simp; omega
theorem movesC_get : ∀ (ms : List Mv) (i : Nat) (hi : i < ms.length), (movesC ms)[i * 3]? = some (.int .i64 (ms[i]).1) ∧ (movesC ms)[i * 3 + 1]? = some (.int .i64 (ms[i]).2.1) ∧ (movesC ms)[i * 3 + 2]? = some (.int .i64 (ms[i]).2.2)
  | r :: ms, 0, _ => ⟨rfl, rfl, rfl⟩
  | r :: ms, i + 1, hi => by
    have h := movesC_get ms i (by simpa using hi)
    have e : movesC (r :: ms) = .int .i64 r.1 :: .int .i64 r.2.1 :: .int .i64 r.2.2 :: movesC ms := rfl
    rw [e, show (i + 1) * 3 = i * 3 + 1 + 1 + 1 by omega]
    exact h
/-- the reading of moves -/
theorem moves_at {w : World} {B c n : Nat} {A : Option Addr} {ms : List Mv} (h : Rd w B (.slice A n c) ms.length 3 (movesC ms)) (hn : 0 < ms.length) :
    ∃ b off, A = some ⟨b, off, none⟩ ∧ b < B ∧ ∀ i (hi : i < ms.length), w.cell? ⟨b, off + i * 3, none⟩ = some (.int .i64 (ms[i]).1) ∧ w.cell? ⟨b, off + i * 3 + 1, none⟩ = some (.int .i64 (ms[i]).2.1) ∧ w.cell? ⟨b, off + i * 3 + 2, none⟩ = some (.int .i64 (ms[i]).2.2) := by
  obtain ⟨_, A', c', hv, hc⟩ := h
  obtain ⟨b, off, hA, hb, hcc⟩ := hc (by omega)
  injection hv with e1 e2 e3
  subst e1
  refine ⟨b, off, hA, hb, fun i hi => ?_⟩
  obtain ⟨g1, g2, g3⟩ := movesC_get ms i hi
  exact ⟨hcc _ _ g1, hcc _ _ g2, hcc _ _ g3⟩
def rpA (a : Ab) (ms : List Mv) : Ab × Int × Int := if okAb a then (⟨a.u, a.l, a.w, (runM a a.rods ms).1⟩, ((runM a a.rods ms).2 : Int), 0) else (zeroAb, 0, 1)
/-- a result: an abacus, a number and a code -/
def RetRp (W : World) (x : Ab × Int × Int) (e : Ending) (w' : World) : Prop := ∃ v', e = .returned (.tuple #[aggAb x.1.u x.1.l x.1.w v', .int .i64 x.2.1, .int .i64 x.2.2]) ∧ w'.ownsRow W.heap.size 98 2 v' x.1.rods.length (rodsC x.1.rods) ∧ Below W.heap.size W w'
theorem ok_move {u l w : Int} {cur : List (Int × Int)} {m : Mv} (h : okAb ⟨u, l, w, cur⟩ = true) (hc : moveC ⟨u, l, w, cur⟩ cur m = 0) : okAb ⟨u, l, w, moveR cur m⟩ = true := by
  obtain ⟨h1, h2, h3, h4⟩ := okAb_and h
  rcases moveC_cases ⟨u, l, w, cur⟩ cur m with ⟨_, g⟩ | ⟨_, _, g⟩ | ⟨_, _, _, g⟩ | ⟨_, _, _, _, g⟩ | ⟨_, _, _, _, _, g⟩ | ⟨g0, _, _, g3, g4, _⟩
  · rw [g] at hc; exact absurd hc (by decide)
  · rw [g] at hc; exact absurd hc (by decide)
  · rw [g] at hc; exact absurd hc (by decide)
  · rw [g] at hc; exact absurd hc (by decide)
  · rw [g] at hc; exact absurd hc (by decide)
  · refine okAb_mk h1 ?_ (by show 1 ≤ (moveR cur m).length; rw [moveR_len]; exact h3) (by show (moveR cur m).length ≤ 10; rw [moveR_len]; exact h4)
    rw [List.all_eq_true] at h2 ⊢
    intro r hr
    rcases List.mem_or_eq_of_mem_set (show r ∈ cur.set m.1.toNat _ from hr) with hr | rfl
    · exact h2 r hr
    · unfold rodOk
      dsimp only at g3 g4 ⊢
      rw [g3, g4]; rfl
theorem run_step {a : Ab} {cur : List (Int × Int)} {ms : List Mv} {i : Nat} (hi : i < ms.length) (hc : moveC a cur ms[i] = 0) : (runM a cur (ms.drop i)).1 = (runM a (moveR cur ms[i]) (ms.drop (i + 1))).1 ∧ (runM a cur (ms.drop i)).2 = (runM a (moveR cur ms[i]) (ms.drop (i + 1))).2 + 1 := by
  rw [List.drop_eq_getElem_cons hi]
  refine ⟨?_, ?_⟩ <;> simp only [runM, if_pos hc]
theorem run_stop {a : Ab} {cur : List (Int × Int)} {ms : List Mv} {i : Nat} (hi : i < ms.length) (hc : moveC a cur ms[i] ≠ 0) : runM a cur (ms.drop i) = (cur, 0) := by
  rw [List.drop_eq_getElem_cons hi]
  simp only [runM, if_neg hc]
/-- moves under way: the result r is fresh, the abacus lies in block q -/
structure RpI (W wx : World) (r q : Nat) (u l w : Int) (v : Value) (cur : List (Int × Int)) : Prop where
  res : wx.heap[r]? = some (.cells #[.int .i64 0, .int .i64 0, .int .i64 0, .slice none 0 0] 26 (0, 0))
  out : wx.heap[q]? = some (.cells #[.int .i64 u, .int .i64 l, .int .i64 w, v] 26 (0, 0))
  row : wx.ownsRow W.heap.size 98 2 v cur.length (rodsC cur)
  bel : Below W.heap.size W wx
  lr : W.heap.size ≤ r
  rq : r < q
section
variable {W wx wy : World} {r q : Nat} {u l w : Int} {v v' : Value} {cur cur' : List (Int × Int)}
theorem RpI.below (h : RpI W wx r q u l w v cur) (hb : Below wx.heap.size wx wy) : RpI W wy r q u l w v cur :=
  ⟨(hb.block _ (blk_ltN h.res)).trans h.res, (hb.block _ (blk_ltN h.out)).trans h.out, own_below h.row hb, h.bel.trans (hb.mono h.bel.size), h.lr, h.rq⟩
theorem RpI.next (h : RpI W wx r q u l w v cur) (hr : wx.ownsRow W.heap.size 98 2 v' cur'.length (rodsC cur')) : RpI W (put4 wx q (.int .i64 u) (.int .i64 l) (.int .i64 w) v') r q u l w v' cur' := by
  have hne := rod_ne hr h.out
  have hrq := h.rq
  refine ⟨put4_heap h.res (by omega) _ _ _ _, put4_same h.out _ _ _ _, ?_, put4_below h.bel (by have := h.lr; omega) _ _ _ _, h.lr, h.rq⟩
  exact ownsRow_setCell_other (ownsRow_setCell_other (ownsRow_setCell_other (ownsRow_setCell_other hr (a := ⟨q, 0, none⟩) hne _) (a := ⟨q, 1, none⟩) hne _) (a := ⟨q, 2, none⟩) hne _) (a := ⟨q, 3, none⟩) hne _
theorem RpI.done (h : RpI W wx r q u l w v cur) : cell4 (put4 wx r (.int .i64 u) (.int .i64 l) (.int .i64 w) v) r (.int .i64 u) (.int .i64 l) (.int .i64 w) v ∧ (put4 wx r (.int .i64 u) (.int .i64 l) (.int .i64 w) v).ownsRow W.heap.size 98 2 v cur.length (rodsC cur) ∧ Below W.heap.size W (put4 wx r (.int .i64 u) (.int .i64 l) (.int .i64 w) v) := by
  have hne := rod_ne h.row h.res
  exact ⟨(blk4 (put4_same h.res _ _ _ _)).1, ownsRow_setCell_other (ownsRow_setCell_other (ownsRow_setCell_other (ownsRow_setCell_other h.row (a := ⟨r, 0, none⟩) hne _) (a := ⟨r, 1, none⟩) hne _) (a := ⟨r, 2, none⟩) hne _) (a := ⟨r, 3, none⟩) hne _, put4_below h.bel h.lr _ _ _ _⟩
end
theorem rp_no {a : Ab} {ms : List Mv} (h : okAb a = false) : rpA a ms = (zeroAb, 0, 1) := by unfold rpA; rw [h]; rfl
theorem rp_yes {a : Ab} {ms : List Mv} (h : okAb a = true) : rpA a ms = (⟨a.u, a.l, a.w, (runM a a.rods ms).1⟩, ((runM a a.rods ms).2 : Int), 0) := by unfold rpA; rw [h, if_pos rfl]
set_option maxRecDepth 100000 in
set_option maxHeartbeats 6400000 in
theorem ReplayI_any (B : Nat) (u l w : Int) (v vm : Value) (rs : List (Int × Int)) (ms : List Mv) (W : World) (h : Rd W B v rs.length 2 (rodsC rs)) (h2 : Rd W B vm ms.length 3 (movesC ms)) (hB : B ≤ W.heap.size) (hm : rs.length ≤ 1048576) (hmm : ms.length ≤ 1048576) :
    Calls Try.prog 12 #[aggAb u l w v, vm] W (RetRp W (rpA ⟨u, l, w, rs⟩ ms)) := by
  have H := Lib.hid h
  have H2 := Lib.hid h2
  obtain ⟨_, A, c, rfl, _⟩ := h
  obtain ⟨_, Am, cm, rfl, _⟩ := h2
  have hx := Bx2.made W (.int .i64 u) (.int .i64 l) (.int .i64 w) (.slice A rs.length c)
  have HV := Lib.hid (ValidAbI_any B u l w (.slice A rs.length c) rs _ (H.out.below (hx.bel.mono hB)) (Nat.le_trans hB hx.bel.size) hm)
  have HX := Lib.hid hx
  obtain ⟨c0, c1, c2, c3⟩ := (blk4 HX.out.box).1
  clear hx
  cases hok : okAb ⟨u, l, w, rs⟩
  · rw [hok] at HV
    have HR := Lib.hid (rp_no (ms := ms) hok)
    clear hok
    go_enter Try.func12, Try.ntmps12
    go_wp2_with fail
    refine HV.out.mono ?_; rintro e w2 ⟨rfl, hb2⟩
    have HX2 := HX.out.below hb2
    obtain ⟨⟨p0, p1, p2, p3⟩, f0, f1, f2, f3⟩ := blk4 HX2.res
    have HD := Lib.hid (HX2.done (.int .i64 0) (.int .i64 0) (.int .i64 0) (.slice none 0 0))
    clear hb2 HX2 c0 c1 c2 c3
    go_wp2_with fail
    obtain ⟨⟨k0, k1, k2, k3⟩, hbz⟩ := HD.out
    refine bodyPost_ret (v := .tuple #[aggAb 0 0 0 (.slice none 0 0), .int .i64 0, .int .i64 1]) (by simp [results, Try.results12, go_sem, k0, k1, k2, k3]) rfl ?_
    rw [HR.out]; exact ⟨_, rfl, own_nilAb _ _, hbz⟩
  rw [hok] at HV
  have HR := Lib.hid (rp_yes (ms := ms) hok)
  have hk3 := (okAb_and hok).2.2.1
  dsimp only at hk3 HR
  have Hok := Lib.hid hok
  have HW := Lib.hid (fun wx hx hz => withRods_any B rs.length u l w (.slice A rs.length c) (.slice A rs.length c) (rodsC rs) wx hx hz (by omega) (by omega) (rodsC_one rs))
  clear hok
  go_enter Try.func12, Try.ntmps12
  go_wp2_with fail
  refine HV.out.mono ?_; rintro e w2 ⟨rfl, hb2⟩
  have HX2 := Lib.hid (HX.out.below hb2)
  have HC := Lib.hid (HW.out w2 (H.out.below (HX2.out.bel.mono hB)) (Nat.le_trans hB HX2.out.bel.size))
  clear hb2 c0 c1 c2 c3 HW HV
  obtain ⟨c0, c1, c2, c3⟩ := (blk4 HX2.out.box).1
  go_wp2_with fail
  refine HC.out.mono ?_; rintro e w3 ⟨g, cap, rfl, ho, hb⟩
  have hl2 := blk_ltN HX2.out.res
  have hbm := (Below.refl w3.heap.size w3).alloc (Nat.le_refl _) (.cells #[.int .i64 u, .int .i64 l, .int .i64 w, .slice (some ⟨g, 0, none⟩) rs.length cap] 26)
  have hX4 := (HX2.out.below hb).below hbm
  have hsb := hb.size
  have HI := Lib.hid (show RpI W (w3.alloc (.cells #[.int .i64 u, .int .i64 l, .int .i64 w, .slice (some ⟨g, 0, none⟩) rs.length cap] 26)) (W.heap.size + 1) w3.heap.size u l w (.slice (some ⟨g, 0, none⟩) rs.length cap) rs from
    ⟨hX4.res, heap_alloc_new w3 _, own_below (ownsRow_le ho (by omega)) hbm, hX4.bel, by omega, by omega⟩)
  go_upto_region 4 with (fail)
  generalize w3.alloc (.cells #[.int .i64 u, .int .i64 l, .int .i64 w, .slice (some ⟨g, 0, none⟩) rs.length cap] 26) = w4 at *
  generalize w3.heap.size = q at *
  clear ho hb hl2 hbm hX4 hsb c0 c1 c2 c3 HC HX2
  go_wp2_with fail
  go_loopw [22] (fun i wr => ∃ (k : Nat) (cur : List (Int × Int)) (v : Value), k ≤ ms.length ∧ i = .int .i64 (k : Int) ∧ okAb ⟨u, l, w, cur⟩ = true ∧ RpI W wr (W.heap.size + 1) q u l w v cur ∧ (runM ⟨u, l, w, rs⟩ rs ms).1 = (runM ⟨u, l, w, rs⟩ cur (ms.drop k)).1 ∧ (runM ⟨u, l, w, rs⟩ rs ms).2 = k + (runM ⟨u, l, w, rs⟩ cur (ms.drop k)).2) (fun i _ => ms.length - (intOf i).toNat)
  case atStart => exact ⟨0, rs, _, Nat.zero_le _, rfl, Hok.out, HI.out, by rw [List.drop_zero], by rw [List.drop_zero]; omega⟩
  case round =>
    obtain ⟨k, cur, vc, hk, rfl, hoc, hI, hr1, hr2⟩ := hrel
    have HI2 := Lib.hid hI
    have HR1 := Lib.hid hr1
    have HR2 := Lib.hid hr2
    have Hoc := Lib.hid hoc
    obtain ⟨Ac, cc, rfl⟩ := own_sl hI.row
    clear hI hr1 hr2 hoc HI
    by_cases hlt : k < ms.length
    · have hlt' : (k : Int) < (ms.length : Int) := by omega
      obtain ⟨b, off, hA, hbB, hcc⟩ := moves_at (H2.out.below (HI2.out.bel.mono hB)) (by omega)
      subst hA
      obtain ⟨m0, m1, m2⟩ := hcc k hlt
      have HSt := Lib.hid (fun h => run_step (a := ⟨u, l, w, rs⟩) (cur := cur) hlt h)
      have HSp := Lib.hid (fun h => run_stop (a := ⟨u, l, w, rs⟩) (cur := cur) hlt h)
      have HOm := Lib.hid (fun (h : moveC ⟨u, l, w, cur⟩ cur (ms[k]'hlt) = 0) => ok_move Hoc.out h)
      have hlen : ms[k] = ms[k] := rfl
      generalize ms[k] = m at *
      clear hlen hcc
      obtain ⟨x0, x1, x2⟩ := m
      dsimp only at m0 m1 m2
      have hbm := (Below.refl wr.heap.size wr).alloc (Nat.le_refl _) (.cells #[.int .i64 x0, .int .i64 x1, .int .i64 x2] 37)
      have HM5 := Lib.hid (heap_alloc_new wr (.cells #[.int .i64 x0, .int .i64 x1, .int .i64 x2] 37))
      have HI5 := Lib.hid (HI2.out.below hbm)
      clear hbm
      go_upto_region 7 with (fail)
      generalize wr.alloc (.cells #[.int .i64 x0, .int .i64 x1, .int .i64 x2] 37) = w5 at *
      generalize wr.heap.size = q9 at *
      clear m0 m1 m2 HI2
      obtain ⟨d0, d1, d2⟩ := three_at HM5.out
      obtain ⟨c0, c1, c2, c3⟩ := (blk4 HI5.out.out).1
      have HMv := Lib.hid (moved_any w5.heap.size u l w (.slice Ac cur.length cc) cur (x0, x1, x2) w5 (Rd.of_own HI5.out.row) (Nat.le_refl _) Hoc.out)
      by_cases hmc : moveC ⟨u, l, w, cur⟩ cur (x0, x1, x2) = 0
      · rw [mvA_ok (a := ⟨u, l, w, cur⟩) hmc] at HMv
        obtain ⟨e1, e2⟩ := HSt.out hmc
        have E1 := Lib.hid e1
        have E2 := Lib.hid e2
        have HOk := Lib.hid (HOm.out hmc)
        clear hmc e1 e2 HSt HSp HOm
        unfold RetAb at HMv
        dsimp only at HMv
        go_wp2_with fail
        refine HMv.out.mono ?_; rintro e w6 ⟨v6, rfl, ho6, hb6⟩
        have hb7 := (Below.refl w6.heap.size w6).alloc (Nat.le_refl _) (.cells #[.int .i64 u, .int .i64 l, .int .i64 w, v6] 26)
        have HI7 := Lib.hid ((HI5.out.below hb6).below hb7)
        have hsz := HI5.out.bel.size
        have Ho7 := Lib.hid (own_below (ownsRow_le ho6 hsz) hb7)
        obtain ⟨A6, c6, rfl⟩ := own_sl ho6
        have HQ10 := Lib.hid (heap_alloc_new w6 (.cells #[.int .i64 u, .int .i64 l, .int .i64 w, .slice A6 (moveR cur (x0, x1, x2)).length c6] 26))
        clear ho6 hb6 hb7 d0 d1 d2 c0 c1 c2 c3 HM5 HMv
        go_upto_region 8 with (fail)
        generalize w6.alloc (.cells #[.int .i64 u, .int .i64 l, .int .i64 w, .slice A6 (moveR cur (x0, x1, x2)).length c6] 26) = w7 at *
        generalize w6.heap.size = q10 at *
        obtain ⟨⟨c0, c1, c2, c3⟩, f0, f1, f2, f3⟩ := blk4 HI7.out.out
        obtain ⟨d0, d1, d2, d3⟩ := (blk4 HQ10.out).1
        have HI8 := Lib.hid (HI7.out.next Ho7.out)
        go_wp2_with fail
        go_roundw
        case rel => exact ⟨k + 1, moveR cur (x0, x1, x2), _, by omega, by go_num, HOk.out, HI8.out, by rw [HR1.out, E1.out], by rw [HR2.out, E2.out]; omega⟩
        case measure => first | (simp [intOf]; done) | (simp [intOf]; omega)
      · rw [mvA_no (a := ⟨u, l, w, cur⟩) rfl hmc] at HMv
        have E1 := Lib.hid (HSp.out hmc)
        have HR1' := Lib.hid (show (runM ⟨u, l, w, rs⟩ rs ms).1 = cur by rw [HR1.out, E1.out])
        have HR2' := Lib.hid (show ((runM ⟨u, l, w, rs⟩ rs ms).2 : Int) = (k : Int) by rw [HR2.out, E1.out]; simp)
        unfold RetAb at HMv
        dsimp only [zeroAb, List.length_nil] at HMv
        have hcd : (moveC ⟨u, l, w, cur⟩ cur (x0, x1, x2) != 0) = true := by rw [bne_iff_ne]; exact hmc
        have hcd2 : (moveC ⟨u, l, w, cur⟩ cur (x0, x1, x2) == 0) = false := by rw [beq_eq_false_iff_ne]; exact hmc
        clear hmc HSt HSp HOm
        generalize moveC ⟨u, l, w, cur⟩ cur (x0, x1, x2) = cd at *
        go_wp2_with fail
        refine HMv.out.mono ?_; rintro e w6 ⟨v6, rfl, ho6, hb6⟩
        obtain ⟨A6, c6, rfl⟩ := own_sl ho6
        have hb7 := (Below.refl w6.heap.size w6).alloc (Nat.le_refl _) (.cells #[.int .i64 0, .int .i64 0, .int .i64 0, .slice A6 0 c6] 26)
        have HI7 := Lib.hid ((HI5.out.below hb6).below hb7)
        clear ho6 hb6 hb7 d0 d1 d2 c0 c1 c2 c3 HM5 HMv
        go_upto_region 8 with (fail)
        generalize w6.alloc (.cells #[.int .i64 0, .int .i64 0, .int .i64 0, .slice A6 0 c6] 26) = w7 at *
        generalize w6.heap.size = q10 at *
        obtain ⟨c0, c1, c2, c3⟩ := (blk4 HI7.out.out).1
        obtain ⟨⟨p0, p1, p2, p3⟩, f0, f1, f2, f3⟩ := blk4 HI7.out.res
        have HD := Lib.hid HI7.out.done
        go_wp2_with fail
        obtain ⟨⟨k0, k1, k2, k3⟩, hoz, hbz⟩ := HD.out
        refine bodyPost_ret (v := .tuple #[aggAb u l w (.slice Ac cur.length cc), .int .i64 (k : Int), .int .i64 0]) (by simp [results, Try.results12, go_sem, k0, k1, k2, k3]) rfl ?_
        rw [HR.out, HR1'.out, HR2'.out]
        exact ⟨_, rfl, hoz, hbz⟩
    · have hkn : k = ms.length := by omega
      subst hkn
      have hlt' : ¬ (ms.length : Int) < (ms.length : Int) := by omega
      have HR1' := Lib.hid (show (runM ⟨u, l, w, rs⟩ rs ms).1 = cur by rw [HR1.out, List.drop_length]; rfl)
      have HR2' := Lib.hid (show ((runM ⟨u, l, w, rs⟩ rs ms).2 : Int) = (ms.length : Int) by rw [HR2.out, List.drop_length]; rfl)
      obtain ⟨c0, c1, c2, c3⟩ := (blk4 HI2.out.out).1
      obtain ⟨⟨p0, p1, p2, p3⟩, f0, f1, f2, f3⟩ := blk4 HI2.out.res
      have HD := Lib.hid HI2.out.done
      go_wp2_with fail
      obtain ⟨⟨k0, k1, k2, k3⟩, hoz, hbz⟩ := HD.out
      refine bodyPost_ret (v := .tuple #[aggAb u l w (.slice Ac cur.length cc), .int .i64 (ms.length : Int), .int .i64 0]) (by simp [results, Try.results12, go_sem, k0, k1, k2, k3]) rfl ?_
      rw [HR.out, HR1'.out, HR2'.out]
      exact ⟨_, rfl, hoz, hbz⟩
end Go.Proofs.Ytemcdmjnokpldaa
/- Beads: ReplayBeads, spec. -/
namespace Go.Proofs.Ytemcdmjnokpldaa
open Go.RowKit Go.Joins

/-- moves under way in an abacus of one's own -/
structure RpS (W wx : World) (r q g cap : Nat) (u l w : Int) (cur : List (Int × Int)) : Prop where
  res : wx.heap[r]? = some (.cells #[.int .i64 0, .int .i64 0, .int .i64 0, .slice none 0 0] 26 (0, 0))
  own : OwA wx W.heap.size q g cap u l w cur
  bel : Below W.heap.size W wx
  lr : W.heap.size ≤ r
  rg : r ≠ g
theorem RpS.moved {W wx wy : World} {r q g cap : Nat} {u l w : Int} {cur cur' : List (Int × Int)} (h : RpS W wx r q g cap u l w cur) (ho : OwA wy W.heap.size q g cap u l w cur') (hg : wx.grownBy wy (some g)) : RpS W wy r q g cap u l w cur' :=
  ⟨(hg.block _ (blk_ltN h.res) (fun e => by injection e with e; exact h.rg e)).trans h.res, ho, h.bel.grown hg h.bel.size (fun x hx => by cases hx; exact (h.own.row.lt g rfl).1), h.lr, h.rg⟩
theorem RpS.done {W wx : World} {r q g cap : Nat} {u l w : Int} {cur : List (Int × Int)} (h : RpS W wx r q g cap u l w cur) : cell4 (put4 wx r (.int .i64 u) (.int .i64 l) (.int .i64 w) (.slice (some ⟨g, 0, none⟩) cur.length cap)) r (.int .i64 u) (.int .i64 l) (.int .i64 w) (.slice (some ⟨g, 0, none⟩) cur.length cap) ∧ (put4 wx r (.int .i64 u) (.int .i64 l) (.int .i64 w) (.slice (some ⟨g, 0, none⟩) cur.length cap)).ownsRow W.heap.size 98 2 (.slice (some ⟨g, 0, none⟩) cur.length cap) cur.length (rodsC cur) ∧ Below W.heap.size W (put4 wx r (.int .i64 u) (.int .i64 l) (.int .i64 w) (.slice (some ⟨g, 0, none⟩) cur.length cap)) := by
  have hne : (Value.slice (some ⟨g, 0, none⟩) cur.length cap).ownBlock ≠ some r := by intro e; injection e with e; exact h.rg e.symm
  exact ⟨(blk4 (put4_same h.res _ _ _ _)).1, ownsRow_setCell_other (ownsRow_setCell_other (ownsRow_setCell_other (ownsRow_setCell_other h.own.row (a := ⟨r, 0, none⟩) hne _) (a := ⟨r, 1, none⟩) hne _) (a := ⟨r, 2, none⟩) hne _) (a := ⟨r, 3, none⟩) hne _, put4_below h.bel h.lr _ _ _ _⟩
set_option maxRecDepth 100000 in
set_option maxHeartbeats 6400000 in
theorem ReplayS_any (B : Nat) (u l w : Int) (v vm : Value) (rs : List (Int × Int)) (ms : List Mv) (W : World) (h : Rd W B v rs.length 2 (rodsC rs)) (h2 : Rd W B vm ms.length 3 (movesC ms)) (hB : B ≤ W.heap.size) (hm : rs.length ≤ 1048576) (hmm : ms.length ≤ 1048576) :
    Calls Try.prog 13 #[aggAb u l w v, vm] W (RetRp W (rpA ⟨u, l, w, rs⟩ ms)) := by
  have H := Lib.hid h
  have H2 := Lib.hid h2
  obtain ⟨_, A, c, rfl, _⟩ := h
  obtain ⟨_, Am, cm, rfl, _⟩ := h2
  have hx := Bx2.made W (.int .i64 u) (.int .i64 l) (.int .i64 w) (.slice A rs.length c)
  have HV := Lib.hid (l03Ok_any W.heap.size B u l w (.slice A rs.length c) rs _ hx.at (H.out.below (hx.bel.mono hB)) hm)
  have HX := Lib.hid hx
  clear hx
  cases hok : okAb ⟨u, l, w, rs⟩
  · rw [hok] at HV
    have HR := Lib.hid (rp_no (ms := ms) hok)
    clear hok
    go_enter Try.func13, Try.ntmps13
    go_wp2_with fail
    refine HV.out.mono ?_; rintro e w2 ⟨rfl, n2, hw2⟩
    have HX2 := HX.out.below (below_eqA hw2)
    obtain ⟨⟨p0, p1, p2, p3⟩, f0, f1, f2, f3⟩ := blk4 HX2.res
    have HD := Lib.hid (HX2.done (.int .i64 0) (.int .i64 0) (.int .i64 0) (.slice none 0 0))
    clear hw2 HX2
    go_wp2_with fail
    obtain ⟨⟨k0, k1, k2, k3⟩, hbz⟩ := HD.out
    refine bodyPost_ret (v := .tuple #[aggAb 0 0 0 (.slice none 0 0), .int .i64 0, .int .i64 1]) (by simp [results, Try.results13, go_sem, k0, k1, k2, k3]) rfl ?_
    rw [HR.out]; exact ⟨_, rfl, own_nilAb _ _, hbz⟩
  rw [hok] at HV
  have HR := Lib.hid (rp_yes (ms := ms) hok)
  have hk3 := (okAb_and hok).2.2.1
  dsimp only at hk3 HR
  have Hok := Lib.hid hok
  have HW := Lib.hid (fun wx ha hx hz => l03Own_any B W.heap.size rs.length u l w (.slice A rs.length c) (rodsC rs) wx ha hx hz (by omega) (by omega) (rodsC_one rs))
  clear hok
  go_enter Try.func13, Try.ntmps13
  go_wp2_with fail
  refine HV.out.mono ?_; rintro e w2 ⟨rfl, n2, hw2⟩
  have HX2 := Lib.hid (HX.out.below (below_eqA hw2))
  have HC := Lib.hid (HW.out w2 HX2.out.at (H.out.below (HX2.out.bel.mono hB)) (Nat.le_trans hB HX2.out.bel.size))
  clear hw2 HW HV
  go_wp2_with fail
  refine HC.out.mono ?_; rintro e w3 ⟨g, cap, rfl, ho, hb⟩
  have hl2 := blk_ltN HX2.out.res
  have hgl := ho.lt g rfl
  have hbm := (Below.refl w3.heap.size w3).alloc (Nat.le_refl _) (.cells #[.int .i64 u, .int .i64 l, .int .i64 w, .slice (some ⟨g, 0, none⟩) rs.length cap] 26)
  have hX4 := (HX2.out.below hb).below hbm
  have hsb := hb.size
  have HI := Lib.hid (show RpS W (w3.alloc (.cells #[.int .i64 u, .int .i64 l, .int .i64 w, .slice (some ⟨g, 0, none⟩) rs.length cap] 26)) (W.heap.size + 1) w3.heap.size g cap u l w rs from
    ⟨hX4.res, ⟨AbAt.of (heap_alloc_new w3 _), own_below (ownsRow_le ho (by omega)) hbm, by omega⟩, hX4.bel, by omega, by omega⟩)
  go_upto_region 4 with (fail)
  generalize w3.alloc (.cells #[.int .i64 u, .int .i64 l, .int .i64 w, .slice (some ⟨g, 0, none⟩) rs.length cap] 26) = w4 at *
  generalize w3.heap.size = q at *
  clear ho hb hl2 hbm hX4 hsb HC HX2 hgl
  go_wp2_with fail
  go_loopw [8, 9] (fun n i wr => ∃ (k : Nat) (cur : List (Int × Int)), k ≤ ms.length ∧ i = .int .i64 (k : Int) ∧ n = .int .i64 (k : Int) ∧ okAb ⟨u, l, w, cur⟩ = true ∧ RpS W wr (W.heap.size + 1) q g cap u l w cur ∧ (runM ⟨u, l, w, rs⟩ rs ms).1 = (runM ⟨u, l, w, rs⟩ cur (ms.drop k)).1 ∧ (runM ⟨u, l, w, rs⟩ rs ms).2 = k + (runM ⟨u, l, w, rs⟩ cur (ms.drop k)).2) (fun _ i _ => ms.length - (intOf i).toNat)
  case atStart => exact ⟨0, rs, Nat.zero_le _, rfl, rfl, Hok.out, HI.out, by rw [List.drop_zero], by rw [List.drop_zero]; omega⟩
  case round =>
    obtain ⟨k, cur, hk, rfl, rfl, hoc, hI, hr1, hr2⟩ := hrel
    have HI2 := Lib.hid hI
    have HR1 := Lib.hid hr1
    have HR2 := Lib.hid hr2
    have Hoc := Lib.hid hoc
    clear hI hr1 hr2 hoc HI
    by_cases hlt : k < ms.length
    · have hlt' : (k : Int) < (ms.length : Int) := by omega
      obtain ⟨b, off, hA, hbB, hcc⟩ := moves_at (H2.out.below (HI2.out.bel.mono hB)) (by omega)
      subst hA
      obtain ⟨m0, m1, m2⟩ := hcc k hlt
      have HSt := Lib.hid (fun h => run_step (a := ⟨u, l, w, rs⟩) (cur := cur) hlt h)
      have HSp := Lib.hid (fun h => run_stop (a := ⟨u, l, w, rs⟩) (cur := cur) hlt h)
      have HOm := Lib.hid (fun (h : moveC ⟨u, l, w, cur⟩ cur (ms[k]'hlt) = 0) => ok_move Hoc.out h)
      generalize ms[k] = m at *
      clear hcc
      obtain ⟨x0, x1, x2⟩ := m
      dsimp only at m0 m1 m2
      have HMv := Lib.hid (l03Move_any W.heap.size q g cap u l w cur (x0, x1, x2) wr HI2.out.own Hoc.out)
      unfold RetLm at HMv
      dsimp only at HMv
      by_cases hmc : moveC ⟨u, l, w, cur⟩ cur (x0, x1, x2) = 0
      · rw [hmc, if_pos rfl] at HMv
        obtain ⟨e1, e2⟩ := HSt.out hmc
        have E1 := Lib.hid e1
        have E2 := Lib.hid e2
        have HOk := Lib.hid (HOm.out hmc)
        clear hmc e1 e2 HSt HSp HOm
        go_wp2_with fail
        refine HMv.out.mono ?_; rintro e w6 ⟨rfl, ho6, hg6⟩
        have HI6 := Lib.hid (HI2.out.moved ho6 hg6)
        clear ho6 hg6 m0 m1 m2
        go_wp2_with fail
        go_roundw
        case rel => exact ⟨k + 1, moveR cur (x0, x1, x2), by omega, by go_num, by go_num, HOk.out, HI6.out, by rw [HR1.out, E1.out], by rw [HR2.out, E2.out]; omega⟩
        case measure => first | (simp [intOf]; done) | (simp [intOf]; omega)
      · rw [if_neg hmc] at HMv
        have E1 := Lib.hid (HSp.out hmc)
        have HR1' := Lib.hid (show (runM ⟨u, l, w, rs⟩ rs ms).1 = cur by rw [HR1.out, E1.out])
        have HR2' := Lib.hid (show ((runM ⟨u, l, w, rs⟩ rs ms).2 : Int) = (k : Int) by rw [HR2.out, E1.out]; simp)
        have hcd : (moveC ⟨u, l, w, cur⟩ cur (x0, x1, x2) == 0) = false := by rw [beq_eq_false_iff_ne]; exact hmc
        clear hmc HSt HSp HOm
        generalize moveC ⟨u, l, w, cur⟩ cur (x0, x1, x2) = cd at *
        go_wp2_with fail
        refine HMv.out.mono ?_; rintro e w6 ⟨rfl, ho6, hg6⟩
        have HI6 := Lib.hid (HI2.out.moved ho6 hg6)
        clear ho6 hg6 m0 m1 m2 HI2
        obtain ⟨c0, c1, c2, c3⟩ := HI6.out.own.a
        obtain ⟨⟨p0, p1, p2, p3⟩, f0, f1, f2, f3⟩ := blk4 HI6.out.res
        have HD := Lib.hid HI6.out.done
        go_wp2_with fail
        obtain ⟨⟨k0, k1, k2, k3⟩, hoz, hbz⟩ := HD.out
        refine bodyPost_ret (v := .tuple #[aggAb u l w (.slice (some ⟨g, 0, none⟩) cur.length cap), .int .i64 (k : Int), .int .i64 0]) (by simp [results, Try.results13, go_sem, k0, k1, k2, k3]) rfl ?_
        rw [HR.out, HR1'.out, HR2'.out]
        exact ⟨_, rfl, hoz, hbz⟩
    · have hkn : k = ms.length := by omega
      subst hkn
      have hlt' : ¬ (ms.length : Int) < (ms.length : Int) := by omega
      have HR1' := Lib.hid (show (runM ⟨u, l, w, rs⟩ rs ms).1 = cur by rw [HR1.out, List.drop_length]; rfl)
      have HR2' := Lib.hid (show ((runM ⟨u, l, w, rs⟩ rs ms).2 : Int) = (ms.length : Int) by rw [HR2.out, List.drop_length]; rfl)
      obtain ⟨c0, c1, c2, c3⟩ := HI2.out.own.a
      obtain ⟨⟨p0, p1, p2, p3⟩, f0, f1, f2, f3⟩ := blk4 HI2.out.res
      have HD := Lib.hid HI2.out.done
      go_wp2_with fail
      obtain ⟨⟨k0, k1, k2, k3⟩, hoz, hbz⟩ := HD.out
      refine bodyPost_ret (v := .tuple #[aggAb u l w (.slice (some ⟨g, 0, none⟩) cur.length cap), .int .i64 (ms.length : Int), .int .i64 0]) (by simp [results, Try.results13, go_sem, k0, k1, k2, k3]) rfl ?_
      rw [HR.out, HR1'.out, HR2'.out]
      exact ⟨_, rfl, hoz, hbz⟩
end Go.Proofs.Ytemcdmjnokpldaa
/- Beads: what adding keeps. -/
namespace Go.Proofs.Ytemcdmjnokpldaa
open Go.RowKit Go.Joins

/-- digits under way -/
def DgI (dl : List Int) (x val : Int) : Prop := ∃ m, digs 13 val = dl ++ digs m x ∧ 0 ≤ x ∧ x < 10 ^ m ∧ dl.length + m = 13
theorem dg_start {val : Int} (h0 : 0 ≤ val) (h1 : val ≤ 1000000000000) : DgI [] val val := ⟨13, rfl, h0, by omega, rfl⟩
theorem dg_step {dl : List Int} {x val : Int} (h : DgI dl x val) (hx : 0 < x) : DgI (dl ++ [x % 10]) (x / 10) val := by
  obtain ⟨m, h1, h2, h3, h4⟩ := h
  cases m with
  | zero => simp at h3; omega
  | succ m =>
    refine ⟨m, ?_, by omega, ?_, by rw [List.length_append]; show dl.length + 1 + m = 13; omega⟩
    · rw [h1, List.append_assoc]
      congr 1
      show (if x ≤ 0 then [] else x % 10 :: digs m (x / 10)) = _
      rw [if_neg (by omega)]; rfl
    · rw [Int.pow_succ] at h3; omega
theorem dg_end {dl : List Int} {x val : Int} (h : DgI dl x val) (hx : x ≤ 0) : digs 13 val = dl := by
  obtain ⟨m, h1, _⟩ := h
  have e : digs m x = [] := by cases m with | zero => rfl | succ m => exact if_pos hx
  rw [h1, e, List.append_nil]
theorem dg_len {dl : List Int} {x val : Int} (h : DgI dl x val) : dl.length ≤ 13 ∧ 0 ≤ x ∧ x ≤ 10000000000000 := by
  obtain ⟨m, _, h2, h3, h4⟩ := h
  have hp : ∀ m : Fin 14, (10 : Int) ^ m.1 ≤ 10000000000000 := by decide
  have := hp ⟨m, by omega⟩
  exact ⟨by omega, h2, by dsimp only at this; omega⟩
abbrev intsC (l : List Int) : List Value := l.map (Value.int .i64)
theorem intsC_len (l : List Int) : (intsC l).length = l.length := List.length_map ..
theorem infoMv : (Try.prog.info? 37).map (fun i => (i.zero, i.size, i.bytes)) = some (some (.agg #[.int .i64 0, .int .i64 0, .int .i64 0]), 3, 24) := by kernel_rfl
theorem own_neT {w : World} {base sz n q : Nat} {e t : TypeId} {v : Value} {cs : List Value} {x : Array Value} {fr : Nat × Nat} (h : w.ownsRow base e sz v n cs) (hq : w.heap[q]? = some (.cells x t fr)) (hne : e ≠ t) : v.ownBlock ≠ some q := by
  intro ev
  rcases h.2 with ⟨rfl, _⟩ | ⟨g, cap, cur, rfl, _, hg, _⟩
  · cases ev
  · injection ev with ev
    have e2 : g = q := ev
    subst e2
    rw [hq] at hg
    injection hg with hg
    injection hg with _ h2 _
    exact hne h2.symm
theorem own_own {w : World} {base base' sz sz' n n' : Nat} {e t : TypeId} {v v' : Value} {cs cs' : List Value} (h : w.ownsRow base e sz v n cs) (h' : w.ownsRow base' t sz' v' n' cs') (hne : e ≠ t) : v.ownBlock = none ∨ v.ownBlock ≠ v'.ownBlock := by
  cases hv : v.ownBlock with
  | none => exact .inl rfl
  | some x =>
    refine .inr fun ev => ?_
    rcases h'.2 with ⟨rfl, _⟩ | ⟨g, cap, cur, rfl, _, hg, _⟩
    · cases ev
    · injection ev with ev
      have e2 : x = g := ev
      subst e2
      exact own_neT h hg hne hv
/-- the rows of adding: an abacus's blocks, the moves, the digits -/
structure AdI (W wx : World) (p r q g cap n : Nat) (u l w : Int) (v : Value) (cur : List (Int × Int)) (vm : Value) (ms : List Mv) (vd : Value) (ds : List Int) : Prop where
  pl : PlAt W wx p r q g cap n u l w v cur
  mv : wx.ownsRow W.heap.size 37 3 vm ms.length (movesC ms)
  dg : wx.ownsRow W.heap.size 2 1 vd ds.length (intsC ds)
  bx : ∃ x : Array Value, wx.heap[p]? = some (.cells x 26 (0, 0))
section
variable {W wx wy : World} {p r q g cap n : Nat} {u l w : Int} {v vm vm' vd : Value} {cur : List (Int × Int)} {ms ms' : List Mv} {ds : List Int}
theorem AdI.below (h : AdI W wx p r q g cap n u l w v cur vm ms vd ds) (hb : Below wx.heap.size wx wy) : AdI W wy p r q g cap n u l w v cur vm ms vd ds := by
  obtain ⟨x, hx⟩ := h.bx
  exact ⟨h.pl.below hb, own_below h.mv hb, own_below h.dg hb, x, (hb.block _ (blk_ltN hx)).trans hx⟩
/-- the moves have grown -/
theorem AdI.app (h : AdI W wx p r q g cap n u l w v cur vm ms vd ds) (hr : wy.ownsRow W.heap.size 37 3 vm' ms'.length (movesC ms')) (hg : wx.grownBy wy vm.ownBlock) : AdI W wy p r q g cap n u l w v cur vm' ms' vd ds := by
  obtain ⟨x, hx⟩ := h.bx
  have k : ∀ {b : Nat} {y : Array Value}, wx.heap[b]? = some (.cells y 26 (0, 0)) → wy.heap[b]? = some (.cells y 26 (0, 0)) := fun hb => (hg.block _ (blk_ltN hb) (fun e => own_neT h.mv hb (by decide) e.symm)).trans hb
  have kp := k hx
  have hpc : ∀ j, wy.cell? ⟨p, j, none⟩ = wx.cell? ⟨p, j, none⟩ := fun j => World.cell?_of_block (by show wy.heap[p]? = wx.heap[p]?; rw [kp, hx])
  refine ⟨⟨⟨(hpc 0).trans h.pl.a.c0, (hpc 1).trans h.pl.a.c1, (hpc 2).trans h.pl.a.c2, (hpc 3).trans h.pl.a.c3⟩, k h.pl.res, k h.pl.out, h.pl.row.kept hg (own_own h.pl.row h.mv (by decide)), h.pl.bel.grown hg h.pl.bel.size (fun y hy => (h.mv.lt y hy).1), h.pl.len, h.pl.pg, h.pl.rg, h.pl.qg, h.pl.rq, h.pl.lr⟩, hr, h.dg.kept hg (own_own h.dg h.mv (by decide)), x, kp⟩
/-- a rod is set -/
theorem AdI.set (h : AdI W wx p r q g cap n u l w v cur vm ms vd ds) {k : Nat} (hk : k < n) (a b : Int) : AdI W ((wx.setCell ⟨g, k * 2, none⟩ (.int .i64 a)).setCell ⟨g, k * 2 + 1, none⟩ (.int .i64 b)) p r q g cap n u l w v (cur.set k (a, b)) vm ms vd ds := by
  obtain ⟨x, hx⟩ := h.bx
  have h1 : vm.ownBlock ≠ some g := by
    rcases own_own h.mv h.pl.row (by decide) with e | e
    · rw [e]; simp
    · exact e
  have h2 : vd.ownBlock ≠ some g := by
    rcases own_own h.dg h.pl.row (by decide) with e | e
    · rw [e]; simp
    · exact e
  exact ⟨h.pl.set hk a b, ownsRow_setCell_other (ownsRow_setCell_other h.mv (a := ⟨g, k * 2, none⟩) h1 _) (a := ⟨g, k * 2 + 1, none⟩) h1 _, ownsRow_setCell_other (ownsRow_setCell_other h.dg (a := ⟨g, k * 2, none⟩) h2 _) (a := ⟨g, k * 2 + 1, none⟩) h2 _, x, blk_setOther (blk_setOther hx h.pl.pg _) h.pl.pg _⟩
/-- the result is written -/
theorem AdI.done (h : AdI W wx p r q g cap n u l w v cur vm ms vd ds) (a' b' c' d' : Value) :
    cell4 (put4 wx r a' b' c' d') r a' b' c' d' ∧ Below W.heap.size W (put4 wx r a' b' c' d') ∧ (put4 wx r a' b' c' d').ownsRow W.heap.size 98 2 (.slice (some ⟨g, 0, none⟩) n cap) n (rodsC cur) ∧ (put4 wx r a' b' c' d').ownsRow W.heap.size 37 3 vm ms.length (movesC ms) := by
  obtain ⟨h1, h2, h3⟩ := h.pl.done a' b' c' d'
  have hne := own_neT h.mv h.pl.res (by decide)
  exact ⟨h1, h2, h3, ownsRow_setCell_other (ownsRow_setCell_other (ownsRow_setCell_other (ownsRow_setCell_other h.mv (a := ⟨r, 0, none⟩) hne a') (a := ⟨r, 1, none⟩) hne b') (a := ⟨r, 2, none⟩) hne c') (a := ⟨r, 3, none⟩) hne d'⟩
end
/-- AddOnAbacus's result -/
def RetAd (W : World) (x : Ab × List Mv × Int) (e : Ending) (w' : World) : Prop := ∃ v' vl, e = .returned (.tuple #[aggAb x.1.u x.1.l x.1.w v', vl, .int .i64 x.2.2]) ∧ w'.ownsRow W.heap.size 98 2 v' x.1.rods.length (rodsC x.1.rods) ∧ w'.ownsRow W.heap.size 37 3 vl x.2.1.length (movesC x.2.1) ∧ Below W.heap.size W w'
theorem own_nilMv (w : World) (B : Nat) : w.ownsRow B 37 3 (.slice none 0 0) 0 (movesC []) := ⟨rfl, .inl ⟨rfl, rfl⟩⟩
theorem RetAd.bad {W w' : World} {x : Ab × List Mv × Int} {c : Int} (h : x = (zeroAb, [], c)) (hb : Below W.heap.size W w') : RetAd W x (.returned (.tuple #[aggAb 0 0 0 (.slice none 0 0), .slice none 0 0, .int .i64 c])) w' := by
  rw [h]; exact ⟨_, _, rfl, own_nilAb _ _, own_nilMv _ _, hb⟩
theorem addV_inv {a : Ab} {v : Int} (h : okAb a = false) : addV a v = (zeroAb, [], 1) := by unfold addV; rw [h]; rfl
theorem addV_rng {a : Ab} {v : Int} (h : okAb a = true) (h2 : inB v 0 1000000000000 = false) : addV a v = (zeroAb, [], 2) := by unfold addV; rw [h, h2]; rfl
theorem addV_st {a : Ab} {v : Int} (h : okAb a = true) (h2 : inB v 0 1000000000000 = true) (h3 : isPl a = false) : addV a v = (zeroAb, [], 6) := by unfold addV; rw [h, h2, h3]; rfl
theorem addV_full {a : Ab} {v : Int} (h : okAb a = true) (h2 : inB v 0 1000000000000 = true) (h3 : isPl a = true) (h4 : addD a.u a.w (digs 13 v) (digs 13 v).length a.rods [] = none) : addV a v = (zeroAb, [], 5) := by unfold addV; rw [h, h2, h3, h4]; rfl
theorem addV_some {a : Ab} {v : Int} {c : List (Int × Int)} {m : List Mv} (h : okAb a = true) (h2 : inB v 0 1000000000000 = true) (h3 : isPl a = true) (h4 : addD a.u a.w (digs 13 v) (digs 13 v).length a.rods [] = some (c, m)) : addV a v = (⟨a.u, a.l, a.w, c⟩, m, 0) := by unfold addV; rw [h, h2, h3, h4]; rfl
theorem addD_succ (u w : Int) (ds : List Int) (p : Nat) (cur : List (Int × Int)) (ms : List Mv) : addD u w ds (p + 1) cur ms = (match addR u w p (ds.getD p 0) cur ms with
    | none => none
    | some (c, m) => addD u w ds p c m) := rfl
theorem allPl_set {a : Ab} {cur : List (Int × Int)} {k : Nat} {r : Int × Int} (h : allPl a cur) (hr : rodOk a r = true ∧ plRod a r = true) : allPl a (cur.set k r) := by
  intro x hx
  rcases List.mem_or_eq_of_mem_set hx with hx | rfl
  · exact h x hx
  · exact hr
theorem ok_allPl {u l w : Int} {rs cur : List (Int × Int)} (h : okAb ⟨u, l, w, rs⟩ = true) (hp : allPl ⟨u, l, w, rs⟩ cur) (hl : cur.length = rs.length) : okAb ⟨u, l, w, cur⟩ = true := by
  obtain ⟨h1, h2, h3, h4⟩ := okAb_and h
  refine okAb_mk h1 ?_ (by show 1 ≤ cur.length; rw [hl]; exact h3) (by show cur.length ≤ 10; rw [hl]; exact h4)
  rw [List.all_eq_true]
  exact fun r hr => (hp r hr).1
theorem movesC_snoc (ms : List Mv) (a b c : Int) : movesC (ms ++ [(a, b, c)]) = movesC ms ++ [.int .i64 a, .int .i64 b, .int .i64 c] := by
  show (ms ++ [(a, b, c)]).flatMap cellsMv = _
  rw [List.flatMap_append]; rfl
end Go.Proofs.Ytemcdmjnokpldaa
