/- Merged texts: Ab18, Bd9, Bd10. -/
import Derived.Test.YtemcdmjnokpldaaGLawBeads4
import Derived.Test.YtemcdmjnokpldaaGLawBeads6
/- Abaci: IsPlain, impl. -/
namespace Go.Proofs.Ytemcdmjnokpldaa
open Go.RowKit Go.Joins

set_option maxRecDepth 100000 in
set_option maxHeartbeats 3200000 in
theorem IsPlainI_any (B : Nat) (u l w : Int) (v : Value) (rs : List (Int × Int)) (W : World) (h : Rd W B v rs.length 2 (rodsC rs)) (hB : B ≤ W.heap.size) (hm : rs.length ≤ 1048576) : Calls Try.prog 23 #[aggAb u l w v] W fun e w' => e = .returned (.bool (isPl ⟨u, l, w, rs⟩)) ∧ Below W.heap.size W w' := by
  have H := Lib.hid h
  obtain ⟨_, A, c, rfl, _⟩ := h
  have hb1 := (Below.refl W.heap.size W).alloc (Nat.le_refl _) (.cells #[.int .i64 u, .int .i64 l, .int .i64 w, .slice A rs.length c] 26)
  have HA := Lib.hid (AbAt.of (heap_alloc_new W (.cells #[.int .i64 u, .int .i64 l, .int .i64 w, .slice A rs.length c] 26)))
  have HV := Lib.hid (ValidAbI_any B u l w (.slice A rs.length c) rs _ (H.out.below (hb1.mono hB)) (Nat.le_trans hB hb1.size) hm)
  have HB := Lib.hid hb1
  have HSH := Lib.hid (fun hok k wx hx hz (hk : k < rs.length) => shownI_any B k u l w (.slice A rs.length c) rs wx hx hz hok hk)
  have HPR := Lib.hid (fun hk1 d wx (d0 : 0 ≤ d) (d9 : d ≤ 9) => plainRodI_any u l w d (.slice A rs.length c) rs wx hk1 d0 d9)
  have hlt1 : W.heap.size < (W.alloc (.cells #[.int .i64 u, .int .i64 l, .int .i64 w, .slice A rs.length c] 26)).heap.size := by simp
  obtain ⟨c0, c1, c2, c3⟩ := HA.out
  clear hb1
  cases hok : okAb ⟨u, l, w, rs⟩
  · rw [hok] at HV
    have e1 : isPl ⟨u, l, w, rs⟩ = false := by unfold isPl; rw [hok]; rfl
    rw [e1]
    clear hok HSH HPR
    go_enter Try.func23, Try.ntmps23
    go_wp2_with fail
    refine HV.out.mono ?_; rintro e w2 ⟨rfl, hb2⟩
    have HB2 := Lib.hid (HB.out.trans (hb2.mono HB.out.size))
    clear hb2
    go_wp2_with fail
    go_ret
    exact ⟨rfl, HB2.out⟩
  rw [hok] at HV
  obtain ⟨hk1, _, hk3, hk4⟩ := okAb_and hok
  have HS := Lib.hid (fun k (hk : k < rs.length) => shown_bd hk1 (ok_get hok hk))
  have HSH2 := Lib.hid (HSH.out hok)
  have HPR2 := Lib.hid (HPR.out hk1)
  have HNO := Lib.hid (fun k (hk : k < rs.length) h => all_no (p := plRod ⟨u, l, w, rs⟩) hk h)
  have HIS := Lib.hid (show isPl ⟨u, l, w, rs⟩ = rs.all (plRod ⟨u, l, w, rs⟩) by unfold isPl; rw [hok, Bool.true_and])
  dsimp only at hk3 hk4 HS HNO
  clear hok hk1 HSH HPR
  go_enter Try.func23, Try.ntmps23
  go_wp2_with fail
  refine HV.out.mono ?_; rintro e w2 ⟨rfl, hb2⟩
  have HB2 := Lib.hid (HB.out.trans (hb2.mono HB.out.size))
  have HA2 := Lib.hid (HA.out.below hlt1 hb2)
  have hs2 := hb2.size
  clear hb2 c0 c1 c2 c3
  obtain ⟨c0, c1, c2, c3⟩ := HA2.out
  have hlt2 : W.heap.size < w2.heap.size := by omega
  clear hs2 hlt1 HB HA
  go_wp2_with fail
  clear c0 c1 c2 c3
  go_loopw [11] (fun i wr => ∃ k : Nat, k ≤ rs.length ∧ i = .int .i64 (k : Int) ∧ (rs.take k).all (plRod ⟨u, l, w, rs⟩) = true ∧ Below w2.heap.size w2 wr) (fun i _ => rs.length - (intOf i).toNat)
  case atStart => exact ⟨0, Nat.zero_le _, rfl, rfl, Below.refl _ _⟩
  case round =>
    obtain ⟨k, hk, rfl, hal, hbl⟩ := hrel
    have Hal := Lib.hid hal
    have Hbl := Lib.hid (HB2.out.trans (hbl.mono HB2.out.size))
    have HAr := Lib.hid (HA2.out.below hlt2 hbl)
    have HBr := Lib.hid hbl
    have hlr := hbl.size
    clear hal hbl
    by_cases hlt : k < rs.length
    · have hlt' : (k : Int) < (rs.length : Int) := by omega
      obtain ⟨c0, c1, c2, c3⟩ := HAr.out
      obtain ⟨_, _, s3, s4⟩ := HS.out k hlt
      have HC := Lib.hid (HSH2.out k wr (H.out.below (Hbl.out.mono hB)) (Nat.le_trans hB Hbl.out.size) hlt)
      have HNk := Lib.hid (HNO.out k hlt)
      have HYk := Lib.hid (fun h => all_take (p := plRod ⟨u, l, w, rs⟩) hlt Hal.out h)
      obtain ⟨b, off, hA, hbB, hcc⟩ := rods_at (H.out.below (Hbl.out.mono hB)) (by omega)
      subst hA
      obtain ⟨r0, r1⟩ := hcc k hlt
      have hcs := plRod_cases u w l rs rs[k]
      have HCP := Lib.hid (fun wx => HPR2.out (shownR w rs[k]) wx s3)
      generalize plainRodA u w (shownR w rs[k]) = y at *
      generalize shownR w rs[k] = d at *
      generalize rs[k] = x at *
      obtain ⟨x0, x1⟩ := x
      obtain ⟨y0, y1⟩ := y
      dsimp only at r0 r1
      clear hcc
      rcases hcs with ⟨g1, g2⟩ | ⟨g1, g2, g3⟩ | ⟨g1, g2, g3⟩
      · have HF := Lib.hid (HIS.out.trans (HNk.out g2))
        clear g2 HNk HYk HCP
        go_wp2_with fail
        refine HC.out.mono ?_; rintro e w3 ⟨rfl, hb3⟩
        have HB3 := Lib.hid (Hbl.out.trans (hb3.mono Hbl.out.size))
        clear hb3 c0 c1 c2 c3 r0 r1
        go_wp2_with fail
        go_quiet (fail)
        go_wp2_with fail
        go_ret
        exact ⟨ret_boolA HF.out.symm, by first | exact below_drewN HB3.out _ | exact HB3.out⟩
      · have HF := Lib.hid (HIS.out.trans (HNk.out g3))
        have g4 : x0 = y0 → (x1 != y1) = true := fun e => by
          rw [bne_iff_ne]; intro e2; exact g2 (by rw [e, e2])
        clear g3 HNk HYk g2
        by_cases h0 : x0 = y0
        · subst h0
          have h1' := g4 rfl
          have h1'' : (x1 == y1) = false := by simpa using h1'
          clear g4
          go_wp2_with fail
          refine HC.out.mono ?_; rintro e w3 ⟨rfl, hb3⟩
          have HB3 := Lib.hid (Hbl.out.trans (hb3.mono Hbl.out.size))
          have HR3 := Lib.hid (HBr.out.trans (hb3.mono HBr.out.size))
          have HA3 := Lib.hid (HAr.out.below (by omega) hb3)
          have HCQ := Lib.hid (HCP.out w3.drew g1)
          have q0 := (hb3.cell (p := ⟨b, off + k * 2, none⟩) (by have := Hbl.out.size; show b < _; omega)).trans r0
          have q1 := (hb3.cell (p := ⟨b, off + k * 2 + 1, none⟩) (by have := Hbl.out.size; show b < _; omega)).trans r1
          have hw3 := hb3.size
          clear hb3 c0 c1 c2 c3 r0 r1
          obtain ⟨c0, c1, c2, c3⟩ := HA3.out
          go_wp2_with fail
          refine wp_region_noPanic ?_
          refine wp_region_L [] (fun w' => w'.cell? ⟨W.heap.size, 0, none⟩ = some (.int .i64 u) ∧ w'.cell? ⟨W.heap.size, 1, none⟩ = some (.int .i64 l) ∧ w'.cell? ⟨W.heap.size, 2, none⟩ = some (.int .i64 w) ∧ w'.cell? ⟨W.heap.size, 3, none⟩ = some (.slice (some ⟨b, off, none⟩) rs.length c) ∧ w'.cell? ⟨b, off + k * 2, none⟩ = some (.int .i64 x0) ∧ w'.cell? ⟨b, off + k * 2 + 1, none⟩ = some (.int .i64 x1)) (by kernel_rfl) (⟨c0, c1, c2, c3, q0, q1⟩) (fun hHeld => ?_)
          refine take_F (i := 0) (d := some 17) (v := ?_) (by kernel_rfl) (by kernel_rfl) rfl rfl (by kernel_rfl) (by kernel_rfl) (by kernel_rfl) (fun _ _ _ h => h) (Or.inl ⟨by rfl, ?_⟩) (by assumption) ?_
          rotate_left
          · (intro w hSw; (try dsimp only at hSw); go_simp; (try rw [if_neg (by omega)]); (try (with_reducible rfl)))
          simp only [Act.put, List.setIfInBounds_toArray, List.set_cons_zero, List.set_cons_succ]
          refine take_F (i := 1) (d := some 18) (v := .bool false) (by kernel_rfl) (by kernel_rfl) rfl rfl (by kernel_rfl) (by kernel_rfl) (by kernel_rfl) (fun _ _ _ h => h) (Or.inl ⟨by rfl, ?_⟩) (by assumption) ?_
          · (intro w hSw; (try dsimp only at hSw); go_simp <;> first | omega | (simp; done) | (simp; omega))
          simp only [Act.put, List.setIfInBounds_toArray, List.set_cons_zero, List.set_cons_succ]
          refine take_F (i := 2) (d := some 19) (v := ?_) (by kernel_rfl) (by kernel_rfl) rfl rfl (by kernel_rfl) (by kernel_rfl) (by kernel_rfl) (fun _ _ _ h => h) (Or.inl ⟨by rfl, ?_⟩) (by assumption) ?_
          rotate_left
          · (intro w hSw; (try dsimp only at hSw); go_simp; (try rw [if_neg (by omega)]); (try (with_reducible rfl)))
          simp only [Act.put, List.setIfInBounds_toArray, List.set_cons_zero, List.set_cons_succ]
          refine take_F (i := 3) (d := some 20) (v := ?_) (by kernel_rfl) (by kernel_rfl) rfl rfl (by kernel_rfl) (by kernel_rfl) (by kernel_rfl) (fun _ _ _ h => h) (Or.inl ⟨by rfl, ?_⟩) (by assumption) ?_
          rotate_left
          · (intro w hSw; (try dsimp only at hSw); go_simp; (try rw [if_neg (by omega)]); (try (with_reducible rfl)))
          simp only [Act.put, List.setIfInBounds_toArray, List.set_cons_zero, List.set_cons_succ]
          refine take_L [11,7,6,4] (i := 4) (d := some 21) (v := ?_) (by kernel_rfl) (by kernel_rfl) (by kernel_rfl) (by kernel_rfl) rfl rfl (by kernel_rfl) (by kernel_rfl) (by kernel_rfl) (fun _ _ _ h => h) (Or.inl ⟨by rfl, ?_⟩) (by assumption) ?_
          rotate_left
          · (intro w hSw; (try dsimp only at hSw); go_simp; (try rw [if_neg (by omega)]); (try (with_reducible rfl)))
          simp only [Act.put, List.setIfInBounds_toArray, List.set_cons_zero, List.set_cons_succ]
          refine take_F (i := 5) (d := some 22) (v := ?_) (by kernel_rfl) (by kernel_rfl) rfl rfl (by kernel_rfl) (by kernel_rfl) (by kernel_rfl) (fun _ _ _ h => h) (Or.inl ⟨by rfl, ?_⟩) (by assumption) ?_
          rotate_left
          · (intro w hSw; (try dsimp only at hSw); go_simp; (try rw [if_neg (by omega)]); (try (with_reducible rfl)))
          simp only [Act.put, List.setIfInBounds_toArray, List.set_cons_zero, List.set_cons_succ]
          refine take_F (i := 6) (d := some 23) (v := ?_) (by kernel_rfl) (by kernel_rfl) rfl rfl (by kernel_rfl) (by kernel_rfl) (by kernel_rfl) (fun _ _ _ h => h) (Or.inl ⟨by rfl, ?_⟩) (by assumption) ?_
          rotate_left
          · (intro w hSw; (try dsimp only at hSw); go_simp; (try rw [if_neg (by omega)]); (try (with_reducible rfl)))
          simp only [Act.put, List.setIfInBounds_toArray, List.set_cons_zero, List.set_cons_succ]
          refine take_L [11,7] (i := 7) (d := some 24) (v := ?_) (by kernel_rfl) (by kernel_rfl) (by kernel_rfl) (by kernel_rfl) rfl rfl (by kernel_rfl) (by kernel_rfl) (by kernel_rfl) (fun _ _ _ h => h) (Or.inl ⟨by rfl, ?_⟩) (by assumption) ?_
          rotate_left
          · (intro w hSw; (try dsimp only at hSw); go_simp; (try rw [if_neg (by omega)]); (try (with_reducible rfl)))
          simp only [Act.put, List.setIfInBounds_toArray, List.set_cons_zero, List.set_cons_succ]
          refine take_L [11,10,8] (i := 8) (d := some 25) (v := ?_) (by kernel_rfl) (by kernel_rfl) (by kernel_rfl) (by kernel_rfl) rfl rfl (by kernel_rfl) (by kernel_rfl) (by kernel_rfl) (fun _ _ _ h => h) (Or.inl ⟨by rfl, ?_⟩) (by assumption) ?_
          rotate_left
          · (intro w hSw; (try dsimp only at hSw); go_simp; (try rw [if_neg (by omega)]); (try (with_reducible rfl)))
          simp only [Act.put, List.setIfInBounds_toArray, List.set_cons_zero, List.set_cons_succ]
          refine take_F (i := 9) (d := some 26) (v := ?_) (by kernel_rfl) (by kernel_rfl) rfl rfl (by kernel_rfl) (by kernel_rfl) (by kernel_rfl) (fun _ _ _ h => h) (Or.inl ⟨by rfl, ?_⟩) (by assumption) ?_
          rotate_left
          · (intro w hSw; (try dsimp only at hSw); go_simp; (try rw [if_neg (by omega)]); (try (with_reducible rfl)))
          simp only [Act.put, List.setIfInBounds_toArray, List.set_cons_zero, List.set_cons_succ]
          refine call_L (i := 10) (d := (some 27)) rfl rfl (by kernel_rfl) (fun Kq hKq => ?_)
          go_simp
          go_at_call 70
          refine HCQ.out.mono ?_; rintro e w4 ⟨rfl, hb4⟩
          have HB4 := Lib.hid (HB3.out.trans (below_undrew (hb4.mono HB3.out.size)))
          have HR4 := Lib.hid (HR3.out.trans (below_undrew (hb4.mono HR3.out.size)))
          have k4 := HA3.out.below (show W.heap.size < w3.heap.size by omega) (below_undrew hb4)
          have q4 := ((below_undrew hb4).cell (p := ⟨b, off + k * 2, none⟩) (show b < w3.heap.size by have := HB3.out.size; omega)).trans q0
          have q5 := ((below_undrew hb4).cell (p := ⟨b, off + k * 2 + 1, none⟩) (show b < w3.heap.size by have := HB3.out.size; omega)).trans q1
          clear hb4
          (try go_wp2_with fail)
          refine hKq.out _ _ (⟨k4.c0, k4.c1, k4.c2, k4.c3, q4, q5⟩) (fun hHeld => ?_)
          clear hKq Kq
          (try simp only [Act.put, List.setIfInBounds_toArray, List.set_cons_zero, List.set_cons_succ])
          refine take_F (i := 11) (d := some 28) (v := ?_) (by kernel_rfl) (by kernel_rfl) rfl rfl (by kernel_rfl) (by kernel_rfl) (by kernel_rfl) (fun _ _ _ h => h) (Or.inl ⟨by rfl, ?_⟩) (by assumption) ?_
          rotate_left
          · (intro w hSw; (try dsimp only at hSw); go_simp; (try rw [if_neg (by omega)]); (try (with_reducible rfl)))
          simp only [Act.put, List.setIfInBounds_toArray, List.set_cons_zero, List.set_cons_succ]
          refine take_F (i := 12) (d := some 29) (v := ?_) (by kernel_rfl) (by kernel_rfl) rfl rfl (by kernel_rfl) (by kernel_rfl) (by kernel_rfl) (fun _ _ _ h => h) (Or.inl ⟨by rfl, ?_⟩) (by assumption) ?_
          rotate_left
          · (intro w hSw; (try dsimp only at hSw); go_simp; (try rw [if_neg (by omega)]); (try (with_reducible rfl)))
          simp only [Act.put, List.setIfInBounds_toArray, List.set_cons_zero, List.set_cons_succ]
          refine done_L (by kernel_rfl) ?_ _
          refine NoPanic.normal ?_
          clear k4 q4 q5 q0 q1 c0 c1 c2 c3
          go_wp2_with fail
          go_ret
          exact ⟨ret_boolA HF.out.symm, by first | exact below_drewN HB4.out _ | exact HB4.out⟩
        · have h0' : (x0 != y0) = true := by simpa using h0
          have h0'' : (x0 == y0) = false := by simpa using h0
          clear g4 h0
          go_wp2_with fail
          refine HC.out.mono ?_; rintro e w3 ⟨rfl, hb3⟩
          have HB3 := Lib.hid (Hbl.out.trans (hb3.mono Hbl.out.size))
          have HR3 := Lib.hid (HBr.out.trans (hb3.mono HBr.out.size))
          have HA3 := Lib.hid (HAr.out.below (by omega) hb3)
          have HCQ := Lib.hid (HCP.out w3.drew g1)
          have q0 := (hb3.cell (p := ⟨b, off + k * 2, none⟩) (by have := Hbl.out.size; show b < _; omega)).trans r0
          have q1 := (hb3.cell (p := ⟨b, off + k * 2 + 1, none⟩) (by have := Hbl.out.size; show b < _; omega)).trans r1
          have hw3 := hb3.size
          clear hb3 c0 c1 c2 c3 r0 r1
          obtain ⟨c0, c1, c2, c3⟩ := HA3.out
          go_wp2_with fail
          refine wp_region_noPanic ?_
          refine wp_region_L [] (fun w' => w'.cell? ⟨W.heap.size, 0, none⟩ = some (.int .i64 u) ∧ w'.cell? ⟨W.heap.size, 1, none⟩ = some (.int .i64 l) ∧ w'.cell? ⟨W.heap.size, 2, none⟩ = some (.int .i64 w) ∧ w'.cell? ⟨W.heap.size, 3, none⟩ = some (.slice (some ⟨b, off, none⟩) rs.length c) ∧ w'.cell? ⟨b, off + k * 2, none⟩ = some (.int .i64 x0) ∧ w'.cell? ⟨b, off + k * 2 + 1, none⟩ = some (.int .i64 x1)) (by kernel_rfl) (⟨c0, c1, c2, c3, q0, q1⟩) (fun hHeld => ?_)
          refine take_F (i := 0) (d := some 17) (v := ?_) (by kernel_rfl) (by kernel_rfl) rfl rfl (by kernel_rfl) (by kernel_rfl) (by kernel_rfl) (fun _ _ _ h => h) (Or.inl ⟨by rfl, ?_⟩) (by assumption) ?_
          rotate_left
          · (intro w hSw; (try dsimp only at hSw); go_simp; (try rw [if_neg (by omega)]); (try (with_reducible rfl)))
          simp only [Act.put, List.setIfInBounds_toArray, List.set_cons_zero, List.set_cons_succ]
          refine take_F (i := 1) (d := some 18) (v := .bool false) (by kernel_rfl) (by kernel_rfl) rfl rfl (by kernel_rfl) (by kernel_rfl) (by kernel_rfl) (fun _ _ _ h => h) (Or.inl ⟨by rfl, ?_⟩) (by assumption) ?_
          · (intro w hSw; (try dsimp only at hSw); go_simp <;> first | omega | (simp; done) | (simp; omega))
          simp only [Act.put, List.setIfInBounds_toArray, List.set_cons_zero, List.set_cons_succ]
          refine take_F (i := 2) (d := some 19) (v := ?_) (by kernel_rfl) (by kernel_rfl) rfl rfl (by kernel_rfl) (by kernel_rfl) (by kernel_rfl) (fun _ _ _ h => h) (Or.inl ⟨by rfl, ?_⟩) (by assumption) ?_
          rotate_left
          · (intro w hSw; (try dsimp only at hSw); go_simp; (try rw [if_neg (by omega)]); (try (with_reducible rfl)))
          simp only [Act.put, List.setIfInBounds_toArray, List.set_cons_zero, List.set_cons_succ]
          refine take_F (i := 3) (d := some 20) (v := ?_) (by kernel_rfl) (by kernel_rfl) rfl rfl (by kernel_rfl) (by kernel_rfl) (by kernel_rfl) (fun _ _ _ h => h) (Or.inl ⟨by rfl, ?_⟩) (by assumption) ?_
          rotate_left
          · (intro w hSw; (try dsimp only at hSw); go_simp; (try rw [if_neg (by omega)]); (try (with_reducible rfl)))
          simp only [Act.put, List.setIfInBounds_toArray, List.set_cons_zero, List.set_cons_succ]
          refine take_L [11,7,6,4] (i := 4) (d := some 21) (v := ?_) (by kernel_rfl) (by kernel_rfl) (by kernel_rfl) (by kernel_rfl) rfl rfl (by kernel_rfl) (by kernel_rfl) (by kernel_rfl) (fun _ _ _ h => h) (Or.inl ⟨by rfl, ?_⟩) (by assumption) ?_
          rotate_left
          · (intro w hSw; (try dsimp only at hSw); go_simp; (try rw [if_neg (by omega)]); (try (with_reducible rfl)))
          simp only [Act.put, List.setIfInBounds_toArray, List.set_cons_zero, List.set_cons_succ]
          refine take_F (i := 5) (d := some 22) (v := ?_) (by kernel_rfl) (by kernel_rfl) rfl rfl (by kernel_rfl) (by kernel_rfl) (by kernel_rfl) (fun _ _ _ h => h) (Or.inl ⟨by rfl, ?_⟩) (by assumption) ?_
          rotate_left
          · (intro w hSw; (try dsimp only at hSw); go_simp; (try rw [if_neg (by omega)]); (try (with_reducible rfl)))
          simp only [Act.put, List.setIfInBounds_toArray, List.set_cons_zero, List.set_cons_succ]
          refine take_F (i := 6) (d := some 23) (v := ?_) (by kernel_rfl) (by kernel_rfl) rfl rfl (by kernel_rfl) (by kernel_rfl) (by kernel_rfl) (fun _ _ _ h => h) (Or.inl ⟨by rfl, ?_⟩) (by assumption) ?_
          rotate_left
          · (intro w hSw; (try dsimp only at hSw); go_simp; (try rw [if_neg (by omega)]); (try (with_reducible rfl)))
          simp only [Act.put, List.setIfInBounds_toArray, List.set_cons_zero, List.set_cons_succ]
          refine take_L [11,7] (i := 7) (d := some 24) (v := ?_) (by kernel_rfl) (by kernel_rfl) (by kernel_rfl) (by kernel_rfl) rfl rfl (by kernel_rfl) (by kernel_rfl) (by kernel_rfl) (fun _ _ _ h => h) (Or.inl ⟨by rfl, ?_⟩) (by assumption) ?_
          rotate_left
          · (intro w hSw; (try dsimp only at hSw); go_simp; (try rw [if_neg (by omega)]); (try (with_reducible rfl)))
          simp only [Act.put, List.setIfInBounds_toArray, List.set_cons_zero, List.set_cons_succ]
          refine take_L [11,10,8] (i := 8) (d := some 25) (v := ?_) (by kernel_rfl) (by kernel_rfl) (by kernel_rfl) (by kernel_rfl) rfl rfl (by kernel_rfl) (by kernel_rfl) (by kernel_rfl) (fun _ _ _ h => h) (Or.inl ⟨by rfl, ?_⟩) (by assumption) ?_
          rotate_left
          · (intro w hSw; (try dsimp only at hSw); go_simp; (try rw [if_neg (by omega)]); (try (with_reducible rfl)))
          simp only [Act.put, List.setIfInBounds_toArray, List.set_cons_zero, List.set_cons_succ]
          refine take_F (i := 9) (d := some 26) (v := ?_) (by kernel_rfl) (by kernel_rfl) rfl rfl (by kernel_rfl) (by kernel_rfl) (by kernel_rfl) (fun _ _ _ h => h) (Or.inl ⟨by rfl, ?_⟩) (by assumption) ?_
          rotate_left
          · (intro w hSw; (try dsimp only at hSw); go_simp; (try rw [if_neg (by omega)]); (try (with_reducible rfl)))
          simp only [Act.put, List.setIfInBounds_toArray, List.set_cons_zero, List.set_cons_succ]
          refine call_L (i := 10) (d := (some 27)) rfl rfl (by kernel_rfl) (fun Kq hKq => ?_)
          go_simp
          go_at_call 70
          refine HCQ.out.mono ?_; rintro e w4 ⟨rfl, hb4⟩
          have HB4 := Lib.hid (HB3.out.trans (below_undrew (hb4.mono HB3.out.size)))
          have HR4 := Lib.hid (HR3.out.trans (below_undrew (hb4.mono HR3.out.size)))
          have k4 := HA3.out.below (show W.heap.size < w3.heap.size by omega) (below_undrew hb4)
          have q4 := ((below_undrew hb4).cell (p := ⟨b, off + k * 2, none⟩) (show b < w3.heap.size by have := HB3.out.size; omega)).trans q0
          have q5 := ((below_undrew hb4).cell (p := ⟨b, off + k * 2 + 1, none⟩) (show b < w3.heap.size by have := HB3.out.size; omega)).trans q1
          clear hb4
          (try go_wp2_with fail)
          refine hKq.out _ _ (⟨k4.c0, k4.c1, k4.c2, k4.c3, q4, q5⟩) (fun hHeld => ?_)
          clear hKq Kq
          (try simp only [Act.put, List.setIfInBounds_toArray, List.set_cons_zero, List.set_cons_succ])
          refine take_F (i := 11) (d := some 28) (v := ?_) (by kernel_rfl) (by kernel_rfl) rfl rfl (by kernel_rfl) (by kernel_rfl) (by kernel_rfl) (fun _ _ _ h => h) (Or.inl ⟨by rfl, ?_⟩) (by assumption) ?_
          rotate_left
          · (intro w hSw; (try dsimp only at hSw); go_simp; (try rw [if_neg (by omega)]); (try (with_reducible rfl)))
          simp only [Act.put, List.setIfInBounds_toArray, List.set_cons_zero, List.set_cons_succ]
          refine take_F (i := 12) (d := some 29) (v := ?_) (by kernel_rfl) (by kernel_rfl) rfl rfl (by kernel_rfl) (by kernel_rfl) (by kernel_rfl) (fun _ _ _ h => h) (Or.inl ⟨by rfl, ?_⟩) (by assumption) ?_
          rotate_left
          · (intro w hSw; (try dsimp only at hSw); go_simp; (try rw [if_neg (by omega)]); (try (with_reducible rfl)))
          simp only [Act.put, List.setIfInBounds_toArray, List.set_cons_zero, List.set_cons_succ]
          refine done_L (by kernel_rfl) ?_ _
          refine NoPanic.normal ?_
          clear k4 q4 q5 q0 q1 c0 c1 c2 c3
          go_wp2_with fail
          go_ret
          exact ⟨ret_boolA HF.out.symm, by first | exact below_drewN HB4.out _ | exact HB4.out⟩
      · have HF := Lib.hid (HYk.out g3)
        injection g2 with g2 g4
        subst g2 g4
        clear g3 HNk HYk
        go_wp2_with fail
        refine HC.out.mono ?_; rintro e w3 ⟨rfl, hb3⟩
        have HB3 := Lib.hid (Hbl.out.trans (hb3.mono Hbl.out.size))
        have HR3 := Lib.hid (HBr.out.trans (hb3.mono HBr.out.size))
        have HA3 := Lib.hid (HAr.out.below (by omega) hb3)
        have HCQ := Lib.hid (HCP.out w3.drew g1)
        have q0 := (hb3.cell (p := ⟨b, off + k * 2, none⟩) (by have := Hbl.out.size; show b < _; omega)).trans r0
        have q1 := (hb3.cell (p := ⟨b, off + k * 2 + 1, none⟩) (by have := Hbl.out.size; show b < _; omega)).trans r1
        have hw3 := hb3.size
        clear hb3 c0 c1 c2 c3 r0 r1
        obtain ⟨c0, c1, c2, c3⟩ := HA3.out
        go_wp2_with fail
        refine wp_region_noPanic ?_
        refine wp_region_L [] (fun w' => w'.cell? ⟨W.heap.size, 0, none⟩ = some (.int .i64 u) ∧ w'.cell? ⟨W.heap.size, 1, none⟩ = some (.int .i64 l) ∧ w'.cell? ⟨W.heap.size, 2, none⟩ = some (.int .i64 w) ∧ w'.cell? ⟨W.heap.size, 3, none⟩ = some (.slice (some ⟨b, off, none⟩) rs.length c) ∧ w'.cell? ⟨b, off + k * 2, none⟩ = some (.int .i64 x0) ∧ w'.cell? ⟨b, off + k * 2 + 1, none⟩ = some (.int .i64 x1)) (by kernel_rfl) (⟨c0, c1, c2, c3, q0, q1⟩) (fun hHeld => ?_)
        refine take_F (i := 0) (d := some 17) (v := ?_) (by kernel_rfl) (by kernel_rfl) rfl rfl (by kernel_rfl) (by kernel_rfl) (by kernel_rfl) (fun _ _ _ h => h) (Or.inl ⟨by rfl, ?_⟩) (by assumption) ?_
        rotate_left
        · (intro w hSw; (try dsimp only at hSw); go_simp; (try rw [if_neg (by omega)]); (try (with_reducible rfl)))
        simp only [Act.put, List.setIfInBounds_toArray, List.set_cons_zero, List.set_cons_succ]
        refine take_F (i := 1) (d := some 18) (v := .bool false) (by kernel_rfl) (by kernel_rfl) rfl rfl (by kernel_rfl) (by kernel_rfl) (by kernel_rfl) (fun _ _ _ h => h) (Or.inl ⟨by rfl, ?_⟩) (by assumption) ?_
        · (intro w hSw; (try dsimp only at hSw); go_simp <;> first | omega | (simp; done) | (simp; omega))
        simp only [Act.put, List.setIfInBounds_toArray, List.set_cons_zero, List.set_cons_succ]
        refine take_F (i := 2) (d := some 19) (v := ?_) (by kernel_rfl) (by kernel_rfl) rfl rfl (by kernel_rfl) (by kernel_rfl) (by kernel_rfl) (fun _ _ _ h => h) (Or.inl ⟨by rfl, ?_⟩) (by assumption) ?_
        rotate_left
        · (intro w hSw; (try dsimp only at hSw); go_simp; (try rw [if_neg (by omega)]); (try (with_reducible rfl)))
        simp only [Act.put, List.setIfInBounds_toArray, List.set_cons_zero, List.set_cons_succ]
        refine take_F (i := 3) (d := some 20) (v := ?_) (by kernel_rfl) (by kernel_rfl) rfl rfl (by kernel_rfl) (by kernel_rfl) (by kernel_rfl) (fun _ _ _ h => h) (Or.inl ⟨by rfl, ?_⟩) (by assumption) ?_
        rotate_left
        · (intro w hSw; (try dsimp only at hSw); go_simp; (try rw [if_neg (by omega)]); (try (with_reducible rfl)))
        simp only [Act.put, List.setIfInBounds_toArray, List.set_cons_zero, List.set_cons_succ]
        refine take_L [11,7,6,4] (i := 4) (d := some 21) (v := ?_) (by kernel_rfl) (by kernel_rfl) (by kernel_rfl) (by kernel_rfl) rfl rfl (by kernel_rfl) (by kernel_rfl) (by kernel_rfl) (fun _ _ _ h => h) (Or.inl ⟨by rfl, ?_⟩) (by assumption) ?_
        rotate_left
        · (intro w hSw; (try dsimp only at hSw); go_simp; (try rw [if_neg (by omega)]); (try (with_reducible rfl)))
        simp only [Act.put, List.setIfInBounds_toArray, List.set_cons_zero, List.set_cons_succ]
        refine take_F (i := 5) (d := some 22) (v := ?_) (by kernel_rfl) (by kernel_rfl) rfl rfl (by kernel_rfl) (by kernel_rfl) (by kernel_rfl) (fun _ _ _ h => h) (Or.inl ⟨by rfl, ?_⟩) (by assumption) ?_
        rotate_left
        · (intro w hSw; (try dsimp only at hSw); go_simp; (try rw [if_neg (by omega)]); (try (with_reducible rfl)))
        simp only [Act.put, List.setIfInBounds_toArray, List.set_cons_zero, List.set_cons_succ]
        refine take_F (i := 6) (d := some 23) (v := ?_) (by kernel_rfl) (by kernel_rfl) rfl rfl (by kernel_rfl) (by kernel_rfl) (by kernel_rfl) (fun _ _ _ h => h) (Or.inl ⟨by rfl, ?_⟩) (by assumption) ?_
        rotate_left
        · (intro w hSw; (try dsimp only at hSw); go_simp; (try rw [if_neg (by omega)]); (try (with_reducible rfl)))
        simp only [Act.put, List.setIfInBounds_toArray, List.set_cons_zero, List.set_cons_succ]
        refine take_L [11,7] (i := 7) (d := some 24) (v := ?_) (by kernel_rfl) (by kernel_rfl) (by kernel_rfl) (by kernel_rfl) rfl rfl (by kernel_rfl) (by kernel_rfl) (by kernel_rfl) (fun _ _ _ h => h) (Or.inl ⟨by rfl, ?_⟩) (by assumption) ?_
        rotate_left
        · (intro w hSw; (try dsimp only at hSw); go_simp; (try rw [if_neg (by omega)]); (try (with_reducible rfl)))
        simp only [Act.put, List.setIfInBounds_toArray, List.set_cons_zero, List.set_cons_succ]
        refine take_L [11,10,8] (i := 8) (d := some 25) (v := ?_) (by kernel_rfl) (by kernel_rfl) (by kernel_rfl) (by kernel_rfl) rfl rfl (by kernel_rfl) (by kernel_rfl) (by kernel_rfl) (fun _ _ _ h => h) (Or.inl ⟨by rfl, ?_⟩) (by assumption) ?_
        rotate_left
        · (intro w hSw; (try dsimp only at hSw); go_simp; (try rw [if_neg (by omega)]); (try (with_reducible rfl)))
        simp only [Act.put, List.setIfInBounds_toArray, List.set_cons_zero, List.set_cons_succ]
        refine take_F (i := 9) (d := some 26) (v := ?_) (by kernel_rfl) (by kernel_rfl) rfl rfl (by kernel_rfl) (by kernel_rfl) (by kernel_rfl) (fun _ _ _ h => h) (Or.inl ⟨by rfl, ?_⟩) (by assumption) ?_
        rotate_left
        · (intro w hSw; (try dsimp only at hSw); go_simp; (try rw [if_neg (by omega)]); (try (with_reducible rfl)))
        simp only [Act.put, List.setIfInBounds_toArray, List.set_cons_zero, List.set_cons_succ]
        refine call_L (i := 10) (d := (some 27)) rfl rfl (by kernel_rfl) (fun Kq hKq => ?_)
        go_simp
        go_at_call 70
        refine HCQ.out.mono ?_; rintro e w4 ⟨rfl, hb4⟩
        have HB4 := Lib.hid (HB3.out.trans (below_undrew (hb4.mono HB3.out.size)))
        have HR4 := Lib.hid (HR3.out.trans (below_undrew (hb4.mono HR3.out.size)))
        have k4 := HA3.out.below (show W.heap.size < w3.heap.size by omega) (below_undrew hb4)
        have q4 := ((below_undrew hb4).cell (p := ⟨b, off + k * 2, none⟩) (show b < w3.heap.size by have := HB3.out.size; omega)).trans q0
        have q5 := ((below_undrew hb4).cell (p := ⟨b, off + k * 2 + 1, none⟩) (show b < w3.heap.size by have := HB3.out.size; omega)).trans q1
        clear hb4
        (try go_wp2_with fail)
        refine hKq.out _ _ (⟨k4.c0, k4.c1, k4.c2, k4.c3, q4, q5⟩) (fun hHeld => ?_)
        clear hKq Kq
        (try simp only [Act.put, List.setIfInBounds_toArray, List.set_cons_zero, List.set_cons_succ])
        refine take_F (i := 11) (d := some 28) (v := ?_) (by kernel_rfl) (by kernel_rfl) rfl rfl (by kernel_rfl) (by kernel_rfl) (by kernel_rfl) (fun _ _ _ h => h) (Or.inl ⟨by rfl, ?_⟩) (by assumption) ?_
        rotate_left
        · (intro w hSw; (try dsimp only at hSw); go_simp; (try rw [if_neg (by omega)]); (try (with_reducible rfl)))
        simp only [Act.put, List.setIfInBounds_toArray, List.set_cons_zero, List.set_cons_succ]
        refine take_F (i := 12) (d := some 29) (v := ?_) (by kernel_rfl) (by kernel_rfl) rfl rfl (by kernel_rfl) (by kernel_rfl) (by kernel_rfl) (fun _ _ _ h => h) (Or.inl ⟨by rfl, ?_⟩) (by assumption) ?_
        rotate_left
        · (intro w hSw; (try dsimp only at hSw); go_simp; (try rw [if_neg (by omega)]); (try (with_reducible rfl)))
        simp only [Act.put, List.setIfInBounds_toArray, List.set_cons_zero, List.set_cons_succ]
        refine done_L (by kernel_rfl) ?_ _
        refine NoPanic.normal ?_
        clear k4 q4 q5 q0 q1 c0 c1 c2 c3
        go_wp2_with fail
        go_roundw
        case rel => exact ⟨k + 1, by omega, by go_num, HF.out, by first | exact HR4.out | exact below_drewN HR4.out _⟩
        case measure => first | (simp [intOf]; done) | (simp [intOf]; omega)
    · have hkn : k = rs.length := by omega
      subst hkn
      have hlt' : ¬ (rs.length : Int) < (rs.length : Int) := by omega
      have HF := Lib.hid (show isPl ⟨u, l, w, rs⟩ = true by
        have h1 := Hal.out
        rw [List.take_length] at h1
        rw [HIS.out, h1])
      go_wp2_with fail
      go_ret
      exact ⟨ret_boolA HF.out.symm, Hbl.out⟩
end Go.Proofs.Ytemcdmjnokpldaa
/- Beads: AddOnAbacus, impl. -/
namespace Go.Proofs.Ytemcdmjnokpldaa
open Go.RowKit Go.Joins

theorem own_int_at {w : World} {base n cap g : Nat} {ds : List Int} (h : w.ownsRow base 2 1 (.slice (some ⟨g, 0, none⟩) n cap) n (intsC ds)) {j : Nat} (hj : j < ds.length) : w.cell? ⟨g, j, none⟩ = some (.int .i64 ds[j]) := by
  have hc := h.cells (g := g) rfl j (.int .i64 ds[j]) (by simp [hj])
  have e0 : (⟨g, 0, none⟩ : Addr).add j = ⟨g, j, none⟩ := by unfold Addr.add; split <;> simp_all
  rwa [e0] at hc
theorem Bx2.app {W wr wx : World} {p r : Nat} {a b c d : Value} {base sz n : Nat} {e : TypeId} {v : Value} {cs : List Value} (h : Bx2 W wr p r a b c d) (ho : wr.ownsRow base e sz v n cs) (hb : W.heap.size ≤ base) (hg : wr.grownBy wx v.ownBlock) (hne : e ≠ 26) : Bx2 W wx p r a b c d :=
  h.grown hg (own_neT ho h.box hne) (own_neT ho h.res hne) (fun x hx => Nat.le_trans hb (ho.lt x hx).1)
theorem addD_none {u w : Int} {ds : List Int} {p : Nat} {cur : List (Int × Int)} {ms : List Mv} (h : addR u w p (ds.getD p 0) cur ms = none) : addD u w ds (p + 1) cur ms = none := by rw [addD_succ, h]
theorem addD_some {u w : Int} {ds : List Int} {p : Nat} {cur c : List (Int × Int)} {ms m : List Mv} (h : addR u w p (ds.getD p 0) cur ms = some (c, m)) : addD u w ds (p + 1) cur ms = addD u w ds p c m := by rw [addD_succ, h]
theorem rod_cells {W wr : World} {p r q g cap n k : Nat} {u l w : Int} {v : Value} {cur : List (Int × Int)} {x0 x1 : Int} (h : PlAt W wr p r q g cap n u l w v cur) (hk : k < cur.length) (hx : cur[k] = (x0, x1)) : wr.cell? ⟨g, k * 2, none⟩ = some (.int .i64 x0) ∧ wr.cell? ⟨g, k * 2 + 1, none⟩ = some (.int .i64 x1) := by
  have hl := rodsC_len cur
  obtain ⟨_, a1, _⟩ := own_put h.row (k * 2) (by omega) undef
  obtain ⟨_, b1, _⟩ := own_put h.row (k * 2 + 1) (by omega) undef
  obtain ⟨g1, g2⟩ := rodsC_get cur k hk
  rw [List.getElem?_eq_getElem (by omega)] at g1 g2
  injection g1 with g1
  injection g2 with g2
  exact ⟨by rw [a1, g1, hx], by rw [b1, g2, hx]⟩
set_option maxRecDepth 100000 in
set_option maxHeartbeats 12800000 in
theorem AddI_any (B : Nat) (u l w val : Int) (v : Value) (rs : List (Int × Int)) (W : World) (h : Rd W B v rs.length 2 (rodsC rs)) (hB : B ≤ W.heap.size) (hm : rs.length ≤ 1048576) : Calls Try.prog 9 #[aggAb u l w v, .int .i64 val] W (RetAd W (addV ⟨u, l, w, rs⟩ val)) := by
  have H := Lib.hid h
  obtain ⟨_, A, c, rfl, _⟩ := h
  have hx := Bx2.made W (.int .i64 u) (.int .i64 l) (.int .i64 w) (.slice A rs.length c)
  have HV := Lib.hid (ValidAbI_any B u l w (.slice A rs.length c) rs _ (H.out.below (hx.bel.mono hB)) (Nat.le_trans hB hx.bel.size) hm)
  have HX := Lib.hid hx
  have HI := Lib.hid (fun wx => between_any val 0 1000000000000 wx)
  have HP := Lib.hid (fun wx hx hz => IsPlainI_any B u l w (.slice A rs.length c) rs wx hx hz hm)
  obtain ⟨c0, c1, c2, c3⟩ := (blk4 HX.out.box).1
  clear hx
  cases hok : okAb ⟨u, l, w, rs⟩
  · rw [hok] at HV
    have HR := Lib.hid (addV_inv (v := val) hok)
    clear hok HI HP
    go_enter Try.func9, Try.ntmps9
    go_wp2_with fail
    refine HV.out.mono ?_; rintro e w2 ⟨rfl, hb2⟩
    have HX2 := HX.out.below hb2
    obtain ⟨⟨p0, p1, p2, p3⟩, f0, f1, f2, f3⟩ := blk4 HX2.res
    have HD := Lib.hid (HX2.done (.int .i64 0) (.int .i64 0) (.int .i64 0) (.slice none 0 0))
    clear hb2 HX2 c0 c1 c2 c3
    go_wp2_with fail
    obtain ⟨⟨k0, k1, k2, k3⟩, hbz⟩ := HD.out
    refine bodyPost_ret (v := .tuple #[aggAb 0 0 0 (.slice none 0 0), .slice none 0 0, .int .i64 1]) (by simp [results, Try.results9, go_sem, k0, k1, k2, k3]) rfl ?_
    exact RetAd.bad HR.out hbz
  rw [hok] at HV
  cases hi : inB val 0 1000000000000
  · have HR := Lib.hid (addV_rng hok hi)
    rw [hi] at HI
    clear hok hi HP
    go_enter Try.func9, Try.ntmps9
    go_wp2_with fail
    refine HV.out.mono ?_; rintro e w2 ⟨rfl, hb2⟩
    have HX2 := HX.out.below hb2
    obtain ⟨⟨p0, p1, p2, p3⟩, f0, f1, f2, f3⟩ := blk4 HX2.res
    have HD := Lib.hid (HX2.done (.int .i64 0) (.int .i64 0) (.int .i64 0) (.slice none 0 0))
    clear hb2 HX2 c0 c1 c2 c3
    go_wp2_with fail
    refine (HI.out _).mono ?_; rintro e w3 ⟨rfl, rfl⟩
    go_wp2_with fail
    obtain ⟨⟨k0, k1, k2, k3⟩, hbz⟩ := HD.out
    refine bodyPost_ret (v := .tuple #[aggAb 0 0 0 (.slice none 0 0), .slice none 0 0, .int .i64 2]) (by simp [results, Try.results9, go_sem, k0, k1, k2, k3]) rfl ?_
    exact RetAd.bad HR.out hbz
  rw [hi] at HI
  cases hp : isPl ⟨u, l, w, rs⟩
  · have HR := Lib.hid (addV_st hok hi hp)
    rw [hp] at HP
    clear hok hi
    go_enter Try.func9, Try.ntmps9
    go_wp2_with fail
    refine HV.out.mono ?_; rintro e w2 ⟨rfl, hb2⟩
    have HX2 := Lib.hid (HX.out.below hb2)
    have HP2 := Lib.hid (HP.out w2 (H.out.below (HX2.out.bel.mono hB)) (Nat.le_trans hB HX2.out.bel.size))
    clear hb2 c0 c1 c2 c3
    obtain ⟨c0, c1, c2, c3⟩ := (blk4 HX2.out.box).1
    go_wp2_with fail
    refine (HI.out _).mono ?_; rintro e w3 ⟨rfl, rfl⟩
    go_wp2_with fail
    refine HP2.out.mono ?_; rintro e w3 ⟨rfl, hb3⟩
    have HX3 := HX2.out.below hb3
    obtain ⟨⟨p0, p1, p2, p3⟩, f0, f1, f2, f3⟩ := blk4 HX3.res
    have HD := Lib.hid (HX3.done (.int .i64 0) (.int .i64 0) (.int .i64 0) (.slice none 0 0))
    clear hb3 HX3 c0 c1 c2 c3
    go_wp2_with fail
    obtain ⟨⟨k0, k1, k2, k3⟩, hbz⟩ := HD.out
    refine bodyPost_ret (v := .tuple #[aggAb 0 0 0 (.slice none 0 0), .slice none 0 0, .int .i64 6]) (by simp [results, Try.results9, go_sem, k0, k1, k2, k3]) rfl ?_
    exact RetAd.bad HR.out hbz
  rw [hp] at HP
  have HRn := Lib.hid (fun h => addV_full hok hi hp h)
  have HRs := Lib.hid (fun (c : List (Int × Int)) (m : List Mv) h => addV_some (c := c) (m := m) hok hi hp h)
  obtain ⟨v0, v1⟩ := inB_bd hi
  obtain ⟨hk1, _, hk3, hk4⟩ := okAb_and hok
  have hpl := (allPl_of hp).2
  dsimp only at hk3 hk4 hpl HRn HRs
  have Hok := Lib.hid hok
  have Hpl := Lib.hid hpl
  have Hk1 := Lib.hid hk1
  have HW := Lib.hid (fun wx hx hz => withRods_any B rs.length u l w (.slice A rs.length c) (.slice A rs.length c) (rodsC rs) wx hx hz (by omega) (by omega) (rodsC_one rs))
  obtain ⟨u0, u4, l1, l12, _, _, _, _⟩ := kind_bd hk1
  dsimp only at u0 u4 l1 l12
  clear hok hi hp hk1 hpl
  go_enter Try.func9, Try.ntmps9
  go_wp2_with fail
  refine HV.out.mono ?_; rintro e w2 ⟨rfl, hb2⟩
  have HX2 := Lib.hid (HX.out.below hb2)
  have HP2 := Lib.hid (HP.out w2 (H.out.below (HX2.out.bel.mono hB)) (Nat.le_trans hB HX2.out.bel.size))
  clear hb2 c0 c1 c2 c3
  obtain ⟨c0, c1, c2, c3⟩ := (blk4 HX2.out.box).1
  go_wp2_with fail
  refine (HI.out _).mono ?_; rintro e w3 ⟨rfl, rfl⟩
  go_wp2_with fail
  refine HP2.out.mono ?_; rintro e w3 ⟨rfl, hb3⟩
  have HX3 := Lib.hid (HX2.out.below hb3)
  clear hb3 c0 c1 c2 c3 HX HX2 HP HP2 HV HI
  go_upto_region 8 with (fail)
  have hbd := (Below.refl w3.heap.size w3).alloc (Nat.le_refl _) (.cells #[] 2)
  have Hd0 := Lib.hid (World.ownsRow_made (base := W.heap.size) (e := 2) (size := 1) w3 #[] 0 HX3.out.bel.size (by simp [maxLen]) rfl)
  have HX4 := Lib.hid (HX3.out.below hbd)
  have HDg := Lib.hid (dg_start v0 v1)
  clear hbd
  go_wp2_with fail
  go_loopw [7, 8] (fun o i wr => ∃ (dl : List Int) (x : Int), i = .int .i64 x ∧ DgI dl x val ∧ wr.ownsRow W.heap.size 2 1 o dl.length (intsC dl) ∧ Bx2 W wr W.heap.size (W.heap.size + 1) (.int .i64 u) (.int .i64 l) (.int .i64 w) (.slice A rs.length c)) (fun _ i _ => (intOf i).toNat)
  case atStart => exact ⟨[], val, rfl, HDg.out, Hd0.out, HX4.out⟩
  case round =>
    obtain ⟨dl, x, rfl, hdg, hown, hbx⟩ := hrel
    have HDg2 := Lib.hid hdg
    obtain ⟨hdl, hx0, hx1⟩ := dg_len hdg
    have Hown := Lib.hid hown
    have HBx := Lib.hid hbx
    obtain ⟨A7, c7, rfl⟩ := own_sl hown
    clear hdg hown hbx Hd0 HX4 HDg
    by_cases hxp : 0 < x
    · have HDs := Lib.hid (dg_step HDg2.out hxp)
      have hmd : x.tmod 10 = x % 10 := Int.tmod_eq_emod_of_nonneg hx0
      have hdv : x.tdiv 10 = x / 10 := Int.tdiv_eq_ediv_of_nonneg hx0
      have hw1 : IntKind.i64.wrap (x % 10) = x % 10 := IntWalk.i64_in _ (by omega)
      have hw2 : IntKind.i64.wrap (x / 10) = x / 10 := IntWalk.i64_in _ (by omega)
      have hsz := HBx.out.bel.size
      go_wp2_with (at_builtin; refine wpList_apd 49 2 _ 1 8 Try.underlying49 infoD rfl (by omega) _ _ rfl rfl W.heap.size _ dl.length _ rfl Hown.out #[.int .i64 (x % 10)] 1 1 rfl rfl (by simp [Value.oneCell']) (by simp [maxLen]; omega) (by omega) hsz ?_; intro v9 w9 hown9 hg9; have HBx9 := Lib.hid (HBx.out.app Hown.out (Nat.le_refl _) hg9 (by decide)); have Ho9 := Lib.hid hown9; clear hown9 hg9)
      go_roundw
      case rel => exact ⟨dl ++ [x % 10], x / 10, rfl, HDs.out, by rw [List.length_append]; show World.ownsRow _ _ _ _ _ _ (List.map _ (dl ++ [x % 10])); rw [List.map_append]; exact Ho9.out, HBx9.out⟩
      case measure => simp [intOf]; omega
    · have hx2 : x = 0 := by omega
      subst hx2
      have hdd := dg_end HDg2.out (Int.le_refl 0)
      rw [hdd] at HRn HRs
      have hnx : ¬ (0 : Int) < 0 := by omega
      have HC := Lib.hid (HW.out wr (H.out.below (HBx.out.bel.mono hB)) (Nat.le_trans hB HBx.out.bel.size))
      obtain ⟨c0, c1, c2, c3⟩ := (blk4 HBx.out.box).1
      have hds : ∀ d ∈ dl, 0 ≤ d ∧ d ≤ 9 := by rw [← hdd]; exact digs_all 13 val
      have Hds := Lib.hid hds
      clear hdd hxp HDg2 hds
      go_wp2_with fail
      refine HC.out.mono ?_; rintro e w8 ⟨g, cap, rfl, ho, hb⟩
      have hl2 := blk_ltN HBx.out.res
      have hgl := ho.lt g rfl
      have hbm1 := (Below.refl w8.heap.size w8).alloc (Nat.le_refl _) (.cells #[] 37)
      have hz8 := size_alloc1 w8 (.cells #[] 37)
      have hbm2 := (Below.refl (w8.alloc (.cells #[] 37)).heap.size (w8.alloc (.cells #[] 37))).alloc (Nat.le_refl _) (.cells #[.int .i64 u, .int .i64 l, .int .i64 w, .slice (some ⟨g, 0, none⟩) rs.length cap] 26)
      have hbm : Below w8.heap.size w8 _ := hbm1.trans (hbm2.mono (by omega))
      have hB8 := HBx.out.below hb
      have hBm := hB8.below hbm
      have hmv := own_below (World.ownsRow_made (base := W.heap.size) (e := 37) (size := 3) w8 #[] 0 hB8.bel.size (by simp [maxLen]) rfl) hbm2
      have hnq := heap_alloc_new (w8.alloc (.cells #[] 37)) (.cells #[.int .i64 u, .int .i64 l, .int .i64 w, .slice (some ⟨g, 0, none⟩) rs.length cap] 26)
      rw [hz8] at hnq
      have hsb := hb.size
      have HA0 := Lib.hid (show AdI W ((w8.alloc (.cells #[] 37)).alloc (.cells #[.int .i64 u, .int .i64 l, .int .i64 w, .slice (some ⟨g, 0, none⟩) rs.length cap] 26)) W.heap.size (W.heap.size + 1) (w8.heap.size + 1) g cap rs.length u l w (.slice A rs.length c) rs (.slice (some ⟨w8.heap.size, 0, none⟩) 0 0) [] (.slice A7 dl.length c7) dl from
        ⟨⟨hBm.at, hBm.res, hnq, own_below (ownsRow_le ho (by omega)) hbm, hBm.bel, rfl, by omega, by omega, by omega, by omega, by omega⟩, hmv, own_below (own_below Hown.out hb) hbm, _, hBm.box⟩)
      clear ho hb hl2 hgl hbm1 hz8 hbm2 hbm hB8 hBm hmv hnq c0 c1 c2 c3 HC HBx Hown
      go_upto_region 13 with (fail)
      clear hsb
      generalize (w8.alloc (.cells #[] 37)).alloc (.cells #[.int .i64 u, .int .i64 l, .int .i64 w, .slice (some ⟨g, 0, none⟩) rs.length cap] 26) = w9 at *
      generalize hq9 : w8.heap.size + 1 = q9 at *
      generalize w8.heap.size = qm at *
      clear hq9
      rename World => w0
      have HG := Lib.hid (fun j (hj : j < dl.length) => (show dl.getD j 0 = dl[j] by simp [List.getD, List.getElem?_eq_getElem hj]))
      go_wp2_with fail
      go_loopw [10, 11] (fun vm i wr => ∃ (p : Nat) (cur : List (Int × Int)) (ms : List Mv), p ≤ dl.length ∧ ms.length ≤ 13 * 11 - 11 * p ∧ i = .int .i64 ((p : Int) - 1) ∧ AdI W wr W.heap.size (W.heap.size + 1) q9 g cap rs.length u l w (.slice A rs.length c) cur vm ms (.slice A7 dl.length c7) dl ∧ allPl ⟨u, l, w, rs⟩ cur ∧ addD u w dl dl.length rs [] = addD u w dl p cur ms) (fun _ i _ => (intOf i + 1).toNat)
      case atStart => exact ⟨dl.length, rs, [], Nat.le_refl _, by simp, rfl, HA0.out, Hpl.out, rfl⟩
      case round =>
        obtain ⟨p, cur, ms, hpl', hml, rfl, hA, hal, heq⟩ := hrel
        have HA := Lib.hid hA
        have Hal := Lib.hid hal
        have Heq := Lib.hid heq
        obtain ⟨Am, cm, rfl⟩ := own_sl hA.mv
        clear hA hal heq HA0
        by_cases hp0 : p = 0
        · subst hp0
          have h1 : ¬ (0 : Int) ≤ ((0 : Nat) : Int) - 1 := by omega
          have HR := Lib.hid (HRs.out cur ms Heq.out)
          obtain ⟨q0, q1, q2, q3⟩ := (blk4 HA.out.pl.out).1
          obtain ⟨⟨p0, p1, p2, p3⟩, f0, f1, f2, f3⟩ := blk4 HA.out.pl.res
          have hcl := HA.out.pl.len
          have HD := Lib.hid (HA.out.done (.int .i64 u) (.int .i64 l) (.int .i64 w) (.slice (some ⟨g, 0, none⟩) rs.length cap))
          have Hcl := Lib.hid hcl
          clear hcl
          go_wp2_with fail
          obtain ⟨⟨k0, k1, k2, k3⟩, hbz, ho1, ho2⟩ := HD.out
          refine bodyPost_ret (v := .tuple #[aggAb u l w (.slice (some ⟨g, 0, none⟩) rs.length cap), .slice Am ms.length cm, .int .i64 0]) (by simp [results, Try.results9, go_sem, k0, k1, k2, k3]) rfl ?_
          rw [HR.out]
          exact ⟨_, _, rfl, by show World.ownsRow _ _ _ _ _ cur.length _; rw [Hcl.out]; exact ho1, ho2, hbz⟩
        · obtain ⟨j, rfl⟩ : ∃ j : Nat, p = j + 1 := ⟨p - 1, by omega⟩
          have hj : j < dl.length := by omega
          have e1 : ((j + 1 : Nat) : Int) - 1 = (j : Int) := by omega
          rw [e1]
          have h1 : (0 : Int) ≤ (j : Int) := by omega
          have hj2 : (j : Int) < (dl.length : Int) := by omega
          have hwj : IntKind.i64.wrap ((j : Int) - 1) = (j : Int) - 1 := IntWalk.i64_in _ (by omega)
          obtain ⟨gd, cd, hvd⟩ := ownsRow_form HA.out.dg (by omega)
          have hA7 : A7 = some ⟨gd, 0, none⟩ := by injection hvd
          subst hA7
          have hdc := own_int_at HA.out.dg hj
          have hd9 := Hds.out dl[j] (List.getElem_mem hj)
          have HsuN := Lib.hid (fun h => addD_none (u := u) (w := w) (ds := dl) (p := j) (cur := cur) (ms := ms) h)
          have HsuS := Lib.hid (fun (c : List (Int × Int)) (m : List Mv) h => addD_some (u := u) (w := w) (ds := dl) (p := j) (cur := cur) (ms := ms) (c := c) (m := m) h)
          rw [HG.out j hj] at HsuN HsuS
          generalize dl[j] = d at *
          clear e1 hp0 hvd
          go_wp2_with fail
          have hrn : ∃ wn, wn = wr := ⟨_, rfl⟩
          clear hrn hdc
          rename World => w1
          go_loopw [10, 12, 13] (fun vm2 s i wx => ∃ (k : Nat) (more : Int) (cur2 : List (Int × Int)) (ms2 : List Mv), s = .int .i64 more ∧ i = .int .i64 (k : Int) ∧ (0 ≤ more ∧ more ≤ 9) ∧ j ≤ k ∧ (k ≤ rs.length ∨ k = j) ∧ ms2.length + j ≤ ms.length + k ∧ AdI W wx W.heap.size (W.heap.size + 1) q9 g cap rs.length u l w (.slice A rs.length c) cur2 vm2 ms2 (.slice (some ⟨gd, 0, none⟩) dl.length c7) dl ∧ allPl ⟨u, l, w, rs⟩ cur2 ∧ addR u w j d cur ms = addR u w k more cur2 ms2) (fun _ _ i _ => rs.length - (intOf i).toNat)
          case atStart => exact ⟨j, d, cur, ms, rfl, rfl, hd9, Nat.le_refl _, .inr rfl, Nat.le_refl _, HA.out, Hal.out, rfl⟩
          case round =>
            obtain ⟨k, more, cur2, ms2, rfl, rfl, ⟨mo0, mo9⟩, hjk, hkr, hm2, hA2, hal2, heq2⟩ := hrel
            have HA2 := Lib.hid hA2
            have Hal2 := Lib.hid hal2
            have Heq2 := Lib.hid heq2
            obtain ⟨Am2, cm2, rfl⟩ := own_sl hA2.mv
            have hcl := hA2.pl.len
            clear hA2 hal2 heq2 HA
            by_cases hmo : 0 < more
            · by_cases hkn : k < rs.length
              · have hkn' : ¬ (rs.length : Int) ≤ (k : Int) := by omega
                have hkn2 : (k : Int) < (rs.length : Int) := by omega
                have hkc : k < cur2.length := by omega
                have hokc := ok_allPl Hok.out Hal2.out hcl
                have HSh := Lib.hid (fun wx hx => shownI_any wx.heap.size k u l w (.slice (some ⟨g, 0, none⟩) rs.length cap) cur2 wx hx (Nat.le_refl _) hokc hkc)
                have HSh1 := Lib.hid (HSh.out wr (by rw [hcl]; exact Rd.of_own HA2.out.pl.row))
                have hxp := Hal2.out _ (List.getElem_mem hkc)
                obtain ⟨sx0, sx9⟩ := pl_bd Hk1.out hxp
                have hxb := rodOk_bd hxp.1
                have HSt := Lib.hid (addR_step u w (ms := ms2) hkc (show more ≠ 0 by omega))
                dsimp only at sx0 sx9 hxb
                generalize hS : shownR w cur2[k] = S at *
                have hyp := plain_pl Hk1.out (d := (S + more) % 10) (by omega) (by omega)
                have hyb := rodOk_bd hyp.1
                dsimp only at hyp hyb
                have HPR := Lib.hid (fun wx => plainRodI_any u l w ((S + more) % 10) (.slice A rs.length c) rs wx Hk1.out (by omega) (by omega))
                generalize plainRodA u w ((S + more) % 10) = y at *
                have Hal3 := Lib.hid (allPl_set (k := k) Hal2.out hyp)
                generalize hxk : cur2[k] = x at *
                have Hxk := Lib.hid hxk
                obtain ⟨x0, x1⟩ := x
                obtain ⟨y0, y1⟩ := y
                dsimp only at hxb hyb
                have hsum : 0 ≤ S + more ∧ S + more ≤ 18 := by omega
                have hw1 : IntKind.i64.wrap (S + more) = S + more := IntWalk.i64_in _ (by omega)
                have hmd : (S + more).tmod 10 = (S + more) % 10 := Int.tmod_eq_emod_of_nonneg (by omega)
                have hdv : (S + more).tdiv 10 = (S + more) / 10 := Int.tdiv_eq_ediv_of_nonneg (by omega)
                have hw2 : IntKind.i64.wrap ((S + more) % 10) = (S + more) % 10 := IntWalk.i64_in _ (by omega)
                have hw3 : IntKind.i64.wrap ((S + more) / 10) = (S + more) / 10 := IntWalk.i64_in _ (by omega)
                have hw4 : IntKind.i64.wrap (y0 - x0) = y0 - x0 := IntWalk.i64_in _ (by omega)
                have hw5 : IntKind.i64.wrap (y1 - x1) = y1 - x1 := IntWalk.i64_in _ (by omega)
                have hm9 : (S + more) / 10 ≤ 9 := by omega
                have hm0 : 0 ≤ (S + more) / 10 := by omega
                obtain ⟨q0, q1, q2, q3⟩ := (blk4 HA2.out.pl.out).1
                clear hS hxk hxp hyp sx0 sx9 hokc
                go_wp2_with fail
                refine HSh1.out.mono ?_; rintro e w3 ⟨rfl, hb3⟩
                have HA3 := Lib.hid (HA2.out.below hb3)
                clear hb3 q0 q1 q2 q3
                obtain ⟨a0, a1, a2, a3⟩ := HA3.out.pl.a
                go_wp2_with fail
                refine (HPR.out _).mono ?_; rintro e w4 ⟨rfl, hb4⟩
                have hba := (Below.refl w4.heap.size w4).alloc (Nat.le_refl _) (.cells #[.int .i64 y0, .int .i64 y1] 98)
                have HA5 := Lib.hid ((HA3.out.below hb4).below hba)
                have HQ5 := Lib.hid (heap_alloc_new w4 (.cells #[.int .i64 y0, .int .i64 y1] 98))
                have hq5 : g ≠ w4.heap.size := by have := ((HA3.out.below hb4).pl.row.lt g rfl).2; omega
                clear hb4 hba a0 a1 a2 a3
                go_upto_region 24 with (fail)
                generalize w4.alloc (.cells #[.int .i64 y0, .int .i64 y1] 98) = w5 at *
                generalize w4.heap.size = q15 at *
                obtain ⟨q0, q1, q2, q3⟩ := (blk4 HA5.out.pl.out).1
                obtain ⟨o0, o1, _, _⟩ := blk2 HQ5.out
                obtain ⟨r0, r1⟩ := rod_cells HA5.out.pl hkc Hxk.out
                have hlm : ms2.length + 1 ≤ maxLen := by simp [maxLen]; omega
                have hbm : (ms2.length + 1) * 24 ≤ 140737488355328 := by omega
                have hz5 := HA5.out.pl.bel.size
                have Hmv := Lib.hid HA5.out.mv
                have Hgl := Lib.hid (fun (v' : Value) (w' : World) (ho : w'.ownsRow W.heap.size 37 3 v' (ms2.length + 1) (movesC ms2 ++ #[Value.int .i64 (k : Int), .int .i64 (y0 - x0), .int .i64 (y1 - x1)].toList)) hg => HA5.out.app (ms' := ms2 ++ [((k : Int), y0 - x0, y1 - x1)]) (by rw [List.length_append, movesC_snoc]; exact ho) hg)
                have hba2 := (Below.refl w5.heap.size w5).alloc (Nat.le_refl _) (.cells #[.int .i64 (k : Int), .int .i64 (y0 - x0), .int .i64 (y1 - x1)] 37)
                have HA5b := HA5.out.below hba2
                have q3b := (blk4 HA5b.pl.out).1.2.2.2
                have ob := blk2 ((hba2.block _ (blk_ltN HQ5.out)).trans HQ5.out)
                have rb := rod_cells HA5b.pl hkc Hxk.out
                clear hba2 HA5b
                refine wp_region_noPanic ?_
                refine wp_region_L [23,22] (fun w' => w'.cell? ⟨q9, 3, none⟩ = some (.slice (some ⟨g, 0, none⟩) rs.length cap) ∧ w'.cell? ⟨q15, 0, none⟩ = some (.int .i64 y0) ∧ w'.cell? ⟨q15, 1, none⟩ = some (.int .i64 y1) ∧ w'.cell? ⟨g, k * 2, none⟩ = some (.int .i64 x0) ∧ w'.cell? ⟨g, k * 2 + 1, none⟩ = some (.int .i64 x1)) (by kernel_rfl) (⟨q3, o0, o1, r0, r1⟩) (fun hHeld => ?_)
                refine take_F (i := 0) (d := some 75) (v := ?_) (by kernel_rfl) (by kernel_rfl) rfl rfl (by kernel_rfl) (by kernel_rfl) (by kernel_rfl) (fun _ _ _ h => h) (Or.inl ⟨by rfl, ?_⟩) (by assumption) ?_
                rotate_left
                · (intro w hSw; (try dsimp only at hSw); go_simp; (try rw [if_neg (by omega)]); (try (with_reducible rfl)))
                simp only [Act.put, List.setIfInBounds_toArray, List.set_cons_zero, List.set_cons_succ]
                refine take_F (i := 1) (d := some 76) (v := ?_) (by kernel_rfl) (by kernel_rfl) rfl rfl (by kernel_rfl) (by kernel_rfl) (by kernel_rfl) (fun _ _ _ h => h) (Or.inl ⟨by rfl, ?_⟩) (by assumption) ?_
                rotate_left
                · (intro w hSw; (try dsimp only at hSw); go_simp; (try rw [if_neg (by omega)]); (try (with_reducible rfl)))
                simp only [Act.put, List.setIfInBounds_toArray, List.set_cons_zero, List.set_cons_succ]
                refine take_F (i := 2) (d := some 77) (v := ?_) (by kernel_rfl) (by kernel_rfl) rfl rfl (by kernel_rfl) (by kernel_rfl) (by kernel_rfl) (fun _ _ _ h => h) (Or.inl ⟨by rfl, ?_⟩) (by assumption) ?_
                rotate_left
                · (intro w hSw; (try dsimp only at hSw); go_simp; (try rw [if_neg (by omega)]); (try (with_reducible rfl)))
                simp only [Act.put, List.setIfInBounds_toArray, List.set_cons_zero, List.set_cons_succ]
                refine take_L [21,20,10,3] (i := 3) (d := some 78) (v := ?_) (by kernel_rfl) (by kernel_rfl) (by kernel_rfl) (by kernel_rfl) rfl rfl (by kernel_rfl) (by kernel_rfl) (by kernel_rfl) (fun _ _ _ h => h) (Or.inl ⟨by rfl, ?_⟩) (by assumption) ?_
                rotate_left
                · (intro w hSw; (try dsimp only at hSw); go_simp; (try rw [if_neg (by omega)]); (try (with_reducible rfl)))
                simp only [Act.put, List.setIfInBounds_toArray, List.set_cons_zero, List.set_cons_succ]
                refine take_F (i := 4) (d := some 79) (v := ?_) (by kernel_rfl) (by kernel_rfl) rfl rfl (by kernel_rfl) (by kernel_rfl) (by kernel_rfl) (fun _ _ _ h => h) (Or.inl ⟨by rfl, ?_⟩) (by assumption) ?_
                rotate_left
                · (intro w hSw; (try dsimp only at hSw); go_simp; (try rw [if_neg (by omega)]); (try (with_reducible rfl)))
                simp only [Act.put, List.setIfInBounds_toArray, List.set_cons_zero, List.set_cons_succ]
                refine take_L [21,20,10,9,8,7,5] (i := 5) (d := some 80) (v := ?_) (by kernel_rfl) (by kernel_rfl) (by kernel_rfl) (by kernel_rfl) rfl rfl (by kernel_rfl) (by kernel_rfl) (by kernel_rfl) (fun _ _ _ h => h) (Or.inl ⟨by rfl, ?_⟩) (by assumption) ?_
                rotate_left
                · (intro w hSw; (try dsimp only at hSw); go_simp; (try rw [if_neg (by omega)]); (try (with_reducible rfl)))
                simp only [Act.put, List.setIfInBounds_toArray, List.set_cons_zero, List.set_cons_succ]
                refine take_F (i := 6) (d := some 81) (v := ?_) (by kernel_rfl) (by kernel_rfl) rfl rfl (by kernel_rfl) (by kernel_rfl) (by kernel_rfl) (fun _ _ _ h => h) (Or.inl ⟨by rfl, ?_⟩) (by assumption) ?_
                rotate_left
                · (intro w hSw; (try dsimp only at hSw); go_simp; (try rw [if_neg (by omega)]); (try (with_reducible rfl)))
                simp only [Act.put, List.setIfInBounds_toArray, List.set_cons_zero, List.set_cons_succ]
                refine take_F (i := 7) (d := some 82) (v := ?_) (by kernel_rfl) (by kernel_rfl) rfl rfl (by kernel_rfl) (by kernel_rfl) (by kernel_rfl) (fun _ _ _ h => h) (Or.inl ⟨by rfl, ?_⟩) (by assumption) ?_
                rotate_left
                · (intro w hSw; (try dsimp only at hSw); go_simp; (try rw [if_neg (by omega)]); (try (with_reducible rfl)))
                simp only [Act.put, List.setIfInBounds_toArray, List.set_cons_zero, List.set_cons_succ]
                refine take_F (i := 8) (d := some 83) (v := ?_) (by kernel_rfl) (by kernel_rfl) rfl rfl (by kernel_rfl) (by kernel_rfl) (by kernel_rfl) (fun _ _ _ h => h) (Or.inl ⟨by rfl, ?_⟩) (by assumption) ?_
                rotate_left
                · (intro w hSw; (try dsimp only at hSw); go_simp; (try rw [if_neg (by omega)]); (try (with_reducible rfl)))
                simp only [Act.put, List.setIfInBounds_toArray, List.set_cons_zero, List.set_cons_succ]
                refine take_L [21,20,10,9] (i := 9) (d := some 84) (v := ?_) (by kernel_rfl) (by kernel_rfl) (by kernel_rfl) (by kernel_rfl) rfl rfl (by kernel_rfl) (by kernel_rfl) (by kernel_rfl) (fun _ _ _ h => h) (Or.inl ⟨by rfl, ?_⟩) (by assumption) ?_
                rotate_left
                · (intro w hSw; (try dsimp only at hSw); go_simp; (try rw [if_neg (by omega)]); (try (with_reducible rfl)))
                simp only [Act.put, List.setIfInBounds_toArray, List.set_cons_zero, List.set_cons_succ]
                refine take_F (i := 10) (d := some 85) (v := ?_) (by kernel_rfl) (by kernel_rfl) rfl rfl (by kernel_rfl) (by kernel_rfl) (by kernel_rfl) (fun _ _ _ h => h) (Or.inl ⟨by rfl, ?_⟩) (by assumption) ?_
                rotate_left
                · (intro w hSw; (try dsimp only at hSw); go_simp; (try rw [if_neg (by omega)]); (try (with_reducible rfl)))
                simp only [Act.put, List.setIfInBounds_toArray, List.set_cons_zero, List.set_cons_succ]
                refine take_F (i := 11) (d := some 86) (v := ?_) (by kernel_rfl) (by kernel_rfl) rfl rfl (by kernel_rfl) (by kernel_rfl) (by kernel_rfl) (fun _ _ _ h => h) (Or.inl ⟨by rfl, ?_⟩) (by assumption) ?_
                rotate_left
                · (intro w hSw; (try dsimp only at hSw); go_simp; (try rw [if_neg (by omega)]); (try (with_reducible rfl)))
                simp only [Act.put, List.setIfInBounds_toArray, List.set_cons_zero, List.set_cons_succ]
                refine take_L [21,20,19,12] (i := 12) (d := some 87) (v := ?_) (by kernel_rfl) (by kernel_rfl) (by kernel_rfl) (by kernel_rfl) rfl rfl (by kernel_rfl) (by kernel_rfl) (by kernel_rfl) (fun _ _ _ h => h) (Or.inl ⟨by rfl, ?_⟩) (by assumption) ?_
                rotate_left
                · (intro w hSw; (try dsimp only at hSw); go_simp; (try rw [if_neg (by omega)]); (try (with_reducible rfl)))
                simp only [Act.put, List.setIfInBounds_toArray, List.set_cons_zero, List.set_cons_succ]
                refine take_F (i := 13) (d := some 88) (v := ?_) (by kernel_rfl) (by kernel_rfl) rfl rfl (by kernel_rfl) (by kernel_rfl) (by kernel_rfl) (fun _ _ _ h => h) (Or.inl ⟨by rfl, ?_⟩) (by assumption) ?_
                rotate_left
                · (intro w hSw; (try dsimp only at hSw); go_simp; (try rw [if_neg (by omega)]); (try (with_reducible rfl)))
                simp only [Act.put, List.setIfInBounds_toArray, List.set_cons_zero, List.set_cons_succ]
                refine take_L [21,20,19,18,17,16,14] (i := 14) (d := some 89) (v := ?_) (by kernel_rfl) (by kernel_rfl) (by kernel_rfl) (by kernel_rfl) rfl rfl (by kernel_rfl) (by kernel_rfl) (by kernel_rfl) (fun _ _ _ h => h) (Or.inl ⟨by rfl, ?_⟩) (by assumption) ?_
                rotate_left
                · (intro w hSw; (try dsimp only at hSw); go_simp; (try rw [if_neg (by omega)]); (try (with_reducible rfl)))
                simp only [Act.put, List.setIfInBounds_toArray, List.set_cons_zero, List.set_cons_succ]
                refine take_F (i := 15) (d := some 90) (v := ?_) (by kernel_rfl) (by kernel_rfl) rfl rfl (by kernel_rfl) (by kernel_rfl) (by kernel_rfl) (fun _ _ _ h => h) (Or.inl ⟨by rfl, ?_⟩) (by assumption) ?_
                rotate_left
                · (intro w hSw; (try dsimp only at hSw); go_simp; (try rw [if_neg (by omega)]); (try (with_reducible rfl)))
                simp only [Act.put, List.setIfInBounds_toArray, List.set_cons_zero, List.set_cons_succ]
                refine take_F (i := 16) (d := some 91) (v := ?_) (by kernel_rfl) (by kernel_rfl) rfl rfl (by kernel_rfl) (by kernel_rfl) (by kernel_rfl) (fun _ _ _ h => h) (Or.inl ⟨by rfl, ?_⟩) (by assumption) ?_
                rotate_left
                · (intro w hSw; (try dsimp only at hSw); go_simp; (try rw [if_neg (by omega)]); (try (with_reducible rfl)))
                simp only [Act.put, List.setIfInBounds_toArray, List.set_cons_zero, List.set_cons_succ]
                refine take_F (i := 17) (d := some 92) (v := ?_) (by kernel_rfl) (by kernel_rfl) rfl rfl (by kernel_rfl) (by kernel_rfl) (by kernel_rfl) (fun _ _ _ h => h) (Or.inl ⟨by rfl, ?_⟩) (by assumption) ?_
                rotate_left
                · (intro w hSw; (try dsimp only at hSw); go_simp; (try rw [if_neg (by omega)]); (try (with_reducible rfl)))
                simp only [Act.put, List.setIfInBounds_toArray, List.set_cons_zero, List.set_cons_succ]
                refine take_L [21,20,19,18] (i := 18) (d := some 93) (v := ?_) (by kernel_rfl) (by kernel_rfl) (by kernel_rfl) (by kernel_rfl) rfl rfl (by kernel_rfl) (by kernel_rfl) (by kernel_rfl) (fun _ _ _ h => h) (Or.inl ⟨by rfl, ?_⟩) (by assumption) ?_
                rotate_left
                · (intro w hSw; (try dsimp only at hSw); go_simp; (try rw [if_neg (by omega)]); (try (with_reducible rfl)))
                simp only [Act.put, List.setIfInBounds_toArray, List.set_cons_zero, List.set_cons_succ]
                refine take_F (i := 19) (d := some 94) (v := ?_) (by kernel_rfl) (by kernel_rfl) rfl rfl (by kernel_rfl) (by kernel_rfl) (by kernel_rfl) (fun _ _ _ h => h) (Or.inl ⟨by rfl, ?_⟩) (by assumption) ?_
                rotate_left
                · (intro w hSw; (try dsimp only at hSw); go_simp; (try rw [if_neg (by omega)]); (try (with_reducible rfl)))
                simp only [Act.put, List.setIfInBounds_toArray, List.set_cons_zero, List.set_cons_succ]
                refine take_F (i := 20) (d := some 95) (v := ?_) (by kernel_rfl) (by kernel_rfl) rfl rfl (by kernel_rfl) (by kernel_rfl) (by kernel_rfl) (fun _ _ _ h => h) (Or.inl ⟨by rfl, ?_⟩) (by assumption) ?_
                rotate_left
                · (intro w hSw; (try dsimp only at hSw); go_simp; (try rw [if_neg (by omega)]); (try (with_reducible rfl)))
                simp only [Act.put, List.setIfInBounds_toArray, List.set_cons_zero, List.set_cons_succ]
                refine call_L (i := 21) (d := (some 96)) rfl rfl (by kernel_rfl) (fun Kq hKq => ?_)
                go_simp
                refine hKq.out _ _ (⟨q3b, ob.1, ob.2.1, rb.1, rb.2⟩) (fun hHeld => ?_)
                clear hKq Kq
                (try simp only [Act.put, List.setIfInBounds_toArray, List.set_cons_zero, List.set_cons_succ])
                refine late_L (i := 22) (d := (some 97)) (by kernel_rfl) rfl rfl (by kernel_rfl) (fun Kq hKq => ?_)
                refine step_apd 29 37 _ 3 24 Try.underlying29 infoMv rfl (by omega) _ _ (by rfl) (by rfl) W.heap.size _ ms2.length _ (by rfl) Hmv.out #[.int .i64 (k : Int), .int .i64 (y0 - x0), .int .i64 (y1 - x1)] 1 1 (by rfl) (by rfl) (by simp [Value.oneCell']) hlm hbm hz5 ?_; intro v10 w10 hown10 hg10
                have HA10 := Lib.hid (Hgl.out v10 w10 hown10 hg10)
                have HQ10 := Lib.hid ((hg10.block _ (blk_ltN HQ5.out) (fun e => own_neT Hmv.out HQ5.out (by decide) e.symm)).trans HQ5.out)
                obtain ⟨A10, c10, rfl⟩ := own_sl hown10
                clear hown10 hg10 q0 q1 q2 q3 o0 o1 r0 r1 q3b ob rb
                refine hKq.out _ _ ?_
                clear hKq Kq
                simp only [Act.put, List.setIfInBounds_toArray]
                refine late_L (i := 23) (d := (some 10)) (by kernel_rfl) rfl rfl (by kernel_rfl) (fun Kq hKq => ?_)
                go_simp
                refine hKq.out _ _ ?_
                clear hKq Kq
                refine done_L (by kernel_rfl) ?_ _
                refine NoPanic.normal ?_
                go_upto_region 25 with (fail)
                obtain ⟨q0, q1, q2, q3⟩ := (blk4 HA10.out.pl.out).1
                obtain ⟨o0, o1, _, _⟩ := blk2 HQ10.out
                obtain ⟨⟨z0, z1, t0, t1⟩, s0, s1⟩ := HA10.out.pl.pre hkn
                have HAs := Lib.hid (HA10.out.set hkn y0 y1)
                go_wp2_with fail
                go_roundw
                case rel => exact ⟨k + 1, (S + more) / 10, cur2.set k (y0, y1), ms2 ++ [((k : Int), y0 - x0, y1 - x1)], rfl, by go_num, ⟨hm0, hm9⟩, by omega, .inl (by omega), by rw [List.length_append]; show ms2.length + 1 + j ≤ _; omega, HAs.out, Hal3.out, by rw [Heq2.out, HSt.out]⟩
                case measure => simp [intOf]; omega
              · have hkn' : (rs.length : Int) ≤ (k : Int) := by omega
                have HR := Lib.hid (HRn.out (by rw [Heq.out]; exact HsuN.out (by rw [Heq2.out]; exact addR_full u w (by omega) (by omega))))
                obtain ⟨q0, q1, q2, q3⟩ := (blk4 HA2.out.pl.out).1
                obtain ⟨⟨p0, p1, p2, p3⟩, f0, f1, f2, f3⟩ := blk4 HA2.out.pl.res
                have HD := Lib.hid (HA2.out.done (.int .i64 0) (.int .i64 0) (.int .i64 0) (.slice none 0 0))
                clear hcl
                go_wp2_with fail
                obtain ⟨⟨k0, k1, k2, k3⟩, hbz, _, _⟩ := HD.out
                refine bodyPost_ret (v := .tuple #[aggAb 0 0 0 (.slice none 0 0), .slice none 0 0, .int .i64 5]) (by simp [results, Try.results9, go_sem, k0, k1, k2, k3]) rfl ?_
                exact RetAd.bad HR.out hbz
            · have hm0 : more = 0 := by omega
              subst hm0
              have hnm : ¬ (0 : Int) < 0 := by omega
              have Hfin := Lib.hid (show addD u w dl dl.length rs [] = addD u w dl j cur2 ms2 by rw [Heq.out]; exact HsuS.out _ _ (by rw [Heq2.out, addR_zero]))
              clear hcl
              go_wp2_with fail
              go_roundw
              case rel => exact ⟨j, cur2, ms2, by omega, by rcases hkr with h | h <;> omega, rfl, HA2.out, Hal2.out, Hfin.out⟩
              case measure => first | (simp [intOf]; done) | (simp [intOf]; omega)
end Go.Proofs.Ytemcdmjnokpldaa
/- Beads: (*l03S).add. -/
namespace Go.Proofs.Ytemcdmjnokpldaa
open Go.RowKit Go.Joins

/-- adding under way: the result r, the struct s, its rods, moves and the digits -/
structure AdS (W wx : World) (r s g cap n : Nat) (u l w : Int) (cur : List (Int × Int)) (vm : Value) (ms : List Mv) (vd : Value) (ds : List Int) : Prop where
  res : wx.heap[r]? = some (.cells #[.int .i64 0, .int .i64 0, .int .i64 0, .slice none 0 0] 26 (0, 0))
  st : wx.heap[s]? = some (.cells #[.int .i64 u, .int .i64 l, .int .i64 w, .slice (some ⟨g, 0, none⟩) n cap, vm] 105 (0, 0))
  row : wx.ownsRow W.heap.size 98 2 (.slice (some ⟨g, 0, none⟩) n cap) n (rodsC cur)
  mv : wx.ownsRow W.heap.size 37 3 vm ms.length (movesC ms)
  dg : wx.ownsRow W.heap.size 2 1 vd ds.length (intsC ds)
  bel : Below W.heap.size W wx
  len : cur.length = n
  lr : W.heap.size ≤ r
  ls : W.heap.size ≤ s
theorem five_atB {w : World} {g : Nat} {a b c d f : Value} {t : TypeId} (h : w.heap[g]? = some (.cells #[a, b, c, d, f] t (0, 0))) : (w.cell? ⟨g, 0, none⟩ = some a ∧ w.cell? ⟨g, 1, none⟩ = some b ∧ w.cell? ⟨g, 2, none⟩ = some c ∧ w.cell? ⟨g, 3, none⟩ = some d ∧ w.cell? ⟨g, 4, none⟩ = some f) ∧ w.frozen? ⟨g, 4, none⟩ = false := by
  refine ⟨⟨?_, ?_, ?_, ?_, ?_⟩, frozen_of_row w g 4 _ _ h⟩ <;> (rw [cell_of_row w g _ _ _ _ h]; rfl)
section
variable {W wx wy : World} {r s g cap n : Nat} {u l w : Int} {vm vm' vd vd' : Value} {cur : List (Int × Int)} {ms ms' : List Mv} {ds ds' : List Int}
theorem AdS.rs (h : AdS W wx r s g cap n u l w cur vm ms vd ds) : r ≠ s := fun e => by
  have h1 := h.res
  rw [e, h.st] at h1
  injection h1 with h1
  injection h1 with _ h2 _
  exact absurd h2 (by decide)
theorem AdS.at (h : AdS W wx r s g cap n u l w cur vm ms vd ds) : AbAt wx s u l w (.slice (some ⟨g, 0, none⟩) n cap) := by
  obtain ⟨⟨h0, h1, h2, h3, _⟩, _⟩ := five_atB h.st
  exact ⟨h0, h1, h2, h3⟩
theorem AdS.below (h : AdS W wx r s g cap n u l w cur vm ms vd ds) (hb : Below wx.heap.size wx wy) : AdS W wy r s g cap n u l w cur vm ms vd ds :=
  ⟨(hb.block _ (blk_ltN h.res)).trans h.res, (hb.block _ (blk_ltN h.st)).trans h.st, own_below h.row hb, own_below h.mv hb, own_below h.dg hb, h.bel.trans (hb.mono h.bel.size), h.len, h.lr, h.ls⟩
/-- the moves have grown and are stored -/
theorem AdS.app (h : AdS W wx r s g cap n u l w cur vm ms vd ds) (hr : wy.ownsRow W.heap.size 37 3 vm' ms'.length (movesC ms')) (hg : wx.grownBy wy vm.ownBlock) : AdS W (wy.setCell ⟨s, 4, none⟩ vm') r s g cap n u l w cur vm' ms' vd ds ∧ wy.heap[s]? = wx.heap[s]? := by
  have ks : wy.heap[s]? = wx.heap[s]? := hg.block _ (blk_ltN h.st) (fun e => own_neT h.mv h.st (by decide) e.symm)
  have kr : wy.heap[r]? = _ := (hg.block _ (blk_ltN h.res) (fun e => own_neT h.mv h.res (by decide) e.symm)).trans h.res
  have st' := ks.trans h.st
  have row' := h.row.kept hg (own_own h.row h.mv (by decide))
  have dg' := h.dg.kept hg (own_own h.dg h.mv (by decide))
  exact ⟨⟨blk_setOther kr h.rs _, heap_setCell_same wy s 4 _ _ vm' st', ownsRow_setCell_other row' (a := ⟨s, 4, none⟩) (own_neT row' st' (by decide)) _, ownsRow_setCell_other hr (a := ⟨s, 4, none⟩) (own_neT hr st' (by decide)) _, ownsRow_setCell_other dg' (a := ⟨s, 4, none⟩) (own_neT dg' st' (by decide)) _, (h.bel.grown hg h.bel.size (fun y hy => (h.mv.lt y hy).1)).setCell (p := ⟨s, 4, none⟩) h.ls _, h.len, h.lr, h.ls⟩, ks⟩
/-- a rod is set -/
theorem AdS.set (h : AdS W wx r s g cap n u l w cur vm ms vd ds) {k : Nat} (hk : k < n) (a b : Int) : AdS W ((wx.setCell ⟨g, k * 2, none⟩ (.int .i64 a)).setCell ⟨g, k * 2 + 1, none⟩ (.int .i64 b)) r s g cap n u l w (cur.set k (a, b)) vm ms vd ds := by
  have hl := rodsC_len cur
  have hcl := h.len
  have h1 := (own_put h.row (k * 2) (by omega) (.int .i64 a)).1
  have h2 := (own_put h1 (k * 2 + 1) (by rw [List.length_set]; omega) (.int .i64 b)).1
  rw [rodsC_set] at h2
  have hgl := (h.row.lt g rfl).1
  have m1 : vm.ownBlock ≠ some g := by
    rcases own_own h.mv h.row (by decide) with e | e
    · rw [e]; simp
    · exact e
  have m2 : vd.ownBlock ≠ some g := by
    rcases own_own h.dg h.row (by decide) with e | e
    · rw [e]; simp
    · exact e
  have rg : r ≠ g := fun e => own_neT h.row h.res (by decide) (by rw [e]; rfl)
  have sg : s ≠ g := fun e => own_neT h.row h.st (by decide) (by rw [e]; rfl)
  exact ⟨blk_setOther (blk_setOther h.res rg _) rg _, blk_setOther (blk_setOther h.st sg _) sg _, h2, ownsRow_setCell_other (ownsRow_setCell_other h.mv (a := ⟨g, k * 2, none⟩) m1 _) (a := ⟨g, k * 2 + 1, none⟩) m1 _, ownsRow_setCell_other (ownsRow_setCell_other h.dg (a := ⟨g, k * 2, none⟩) m2 _) (a := ⟨g, k * 2 + 1, none⟩) m2 _, (h.bel.setCell (p := ⟨g, k * 2, none⟩) hgl _).setCell (p := ⟨g, k * 2 + 1, none⟩) hgl _, by rw [List.length_set]; exact h.len, h.lr, h.ls⟩
theorem AdS.pre (h : AdS W wx r s g cap n u l w cur vm ms vd ds) {k : Nat} (hk : k < cur.length) : (wx.cell? ⟨g, k * 2, none⟩ = some (.int .i64 (cur[k]).1) ∧ wx.cell? ⟨g, k * 2 + 1, none⟩ = some (.int .i64 (cur[k]).2)) ∧ wx.frozen? ⟨g, k * 2, none⟩ = false ∧ wx.frozen? ⟨g, k * 2 + 1, none⟩ = false := by
  have hl := rodsC_len cur
  obtain ⟨_, a1, a2⟩ := own_put h.row (k * 2) (by omega) undef
  obtain ⟨_, b1, b2⟩ := own_put h.row (k * 2 + 1) (by omega) undef
  obtain ⟨g1, g2⟩ := rodsC_get cur k hk
  rw [List.getElem?_eq_getElem (by omega)] at g1 g2
  injection g1 with g1
  injection g2 with g2
  exact ⟨⟨by rw [a1, g1], by rw [b1, g2]⟩, a2, b2⟩
end
/-- what add leaves -/
def RetSa (W : World) (r s g cap n : Nat) (u l w : Int) (vd : Value) (ds : List Int) (a : Ab) (m : Nat) (R : Option (List (Int × Int) × List Mv)) (e : Ending) (wy : World) : Prop :=
  ∃ (b : Bool) (cur' : List (Int × Int)) (vm' : Value) (ms' : List Mv), e = .returned (.bool b) ∧ AdS W wy r s g cap n u l w cur' vm' ms' vd ds ∧ ms'.length ≤ m ∧ (b = true → R = some (cur', ms') ∧ allPl a cur') ∧ (b = false → R = none)
theorem RetSa.yes {W wy : World} {r s g cap n m : Nat} {u l w : Int} {vm' vd : Value} {ds : List Int} {a : Ab} {R : Option (List (Int × Int) × List Mv)} {cur' : List (Int × Int)} {ms' : List Mv} (h : AdS W wy r s g cap n u l w cur' vm' ms' vd ds) (hm : ms'.length ≤ m) (hR : R = some (cur', ms')) (hp : allPl a cur') : RetSa W r s g cap n u l w vd ds a m R (.returned (.bool true)) wy :=
  ⟨true, cur', vm', ms', rfl, h, hm, fun _ => ⟨hR, hp⟩, fun h => absurd h (by decide)⟩
theorem RetSa.no {W wy : World} {r s g cap n m : Nat} {u l w : Int} {vm' vd : Value} {ds : List Int} {a : Ab} {R : Option (List (Int × Int) × List Mv)} {cur' : List (Int × Int)} {ms' : List Mv} (h : AdS W wy r s g cap n u l w cur' vm' ms' vd ds) (hm : ms'.length ≤ m) (hR : R = none) : RetSa W r s g cap n u l w vd ds a m R (.returned (.bool false)) wy :=
  ⟨false, cur', vm', ms', rfl, h, hm, fun h => absurd h (by decide), fun _ => hR⟩
theorem addR_z {u w : Int} {k : Nat} {cur : List (Int × Int)} {ms : List Mv} {d : Int} (h : d = 0) : addR u w k d cur ms = some (cur, ms) := by rw [h]; exact addR_zero u w k cur ms
set_option maxRecDepth 100000 in
set_option maxHeartbeats 12800000 in
theorem sadd_any (W : World) (r s g cap n : Nat) (u l w : Int) (vd : Value) (ds : List Int) (rs : List (Int × Int)) (hok : okAb ⟨u, l, w, rs⟩ = true) (hn : rs.length = n) :
    ∀ (f k : Nat) (d : Int) (cur : List (Int × Int)) (vm : Value) (ms : List Mv) (wx : World), n ≤ k + f → k + f ≤ 40 → f ≤ 10 → 0 ≤ d → d ≤ 9 → ms.length + f ≤ 1000 → allPl ⟨u, l, w, rs⟩ cur → AdS W wx r s g cap n u l w cur vm ms vd ds →
      Calls Try.prog 75 #[.pointer (some ⟨s, 0, none⟩), .int .i64 (k : Int), .int .i64 d] wx (RetSa W r s g cap n u l w vd ds ⟨u, l, w, rs⟩ (ms.length + f) (addR u w k d cur ms)) := by
  intro f
  induction f with
  | zero =>
    intro k d cur vm ms wx hnk hk20 _ d0 d9 _ hal hA
    have HA := Lib.hid hA
    have hnk' : (n : Int) ≤ (k : Int) := by omega
    obtain ⟨⟨c0, c1, c2, c3, c4⟩, _⟩ := five_atB hA.st
    have hcl := hA.len
    by_cases hd : d = 0
    · have HR := Lib.hid (addR_z (u := u) (w := w) (k := k) (cur := cur) (ms := ms) hd)
      subst hd
      have Hal := Lib.hid hal
      clear hA hal hcl
      go_enter Try.func75, Try.ntmps75
      go_wp2_with fail
      go_ret
      exact RetSa.yes HA.out (by omega) HR.out Hal.out
    · have HR := Lib.hid (addR_full u w (ms := ms) (show cur.length ≤ k by omega) hd)
      have hd' : (d == 0) = false := by rw [beq_eq_false_iff_ne]; exact hd
      clear hA hal hcl hd
      go_enter Try.func75, Try.ntmps75
      go_wp2_with fail
      go_ret
      exact RetSa.no HA.out (by omega) HR.out
  | succ f ih =>
    intro k d cur vm ms wx hnk hk20 hf10 d0 d9 hms hal hA
    have HA := Lib.hid hA
    have Hal := Lib.hid hal
    have IH := Lib.hid ih
    obtain ⟨⟨c0, c1, c2, c3, c4⟩, _⟩ := five_atB hA.st
    have hcl := hA.len
    by_cases hkn : k < n
    · have hnk' : ¬ (n : Int) ≤ (k : Int) := by omega
      have hkn2 : (k : Int) < (n : Int) := by omega
      by_cases hd : d = 0
      · have HR := Lib.hid (addR_z (u := u) (w := w) (k := k) (cur := cur) (ms := ms) hd)
        subst hd
        clear hA hal hcl ih
        go_enter Try.func75, Try.ntmps75
        go_wp2_with fail
        go_ret
        exact RetSa.yes HA.out (by omega) HR.out Hal.out
      · have hd' : (d == 0) = false := by rw [beq_eq_false_iff_ne]; exact hd
        have hkc : k < cur.length := by omega
        have hokc := ok_allPl hok hal (hcl.trans hn.symm)
        have hk1 := (okAb_and hok).1
        have hRod := Lib.hid (l03Rod_any wx.heap.size s k u l w (.slice (some ⟨g, 0, none⟩) n cap) cur wx hA.at (by rw [hcl]; exact Rd.of_own hA.row) hokc hkc)
        have hxp := hal _ (List.getElem_mem hkc)
        obtain ⟨sx0, sx9⟩ := pl_bd hk1 hxp
        have hxb := rodOk_bd hxp.1
        have HSt := Lib.hid (addR_step u w (ms := ms) hkc hd)
        obtain ⟨u0, u4, l1, l12, _, _, _, _⟩ := kind_bd hk1
        have HPr := Lib.hid (hA.pre hkc)
        dsimp only at sx0 sx9 hxb u0 u4 l1 l12
        generalize hS : shownR w cur[k] = S at *
        have hyp := plain_pl hk1 (d := (S + d) % 10) (by omega) (by omega)
        have hyb := rodOk_bd hyp.1
        dsimp only at hyp hyb
        have HDi := Lib.hid (fun wz hz => l03Digit_any s u l w ((S + d) % 10) (.slice (some ⟨g, 0, none⟩) n cap) rs wz hz hk1 (by omega) (by omega))
        generalize plainRodA u w ((S + d) % 10) = y at *
        have Hal3 := Lib.hid (allPl_set (k := k) hal hyp)
        generalize hxk : cur[k] = x at *
        have Hxk := Lib.hid hxk
        obtain ⟨x0, x1⟩ := x
        obtain ⟨y0, y1⟩ := y
        dsimp only at hxb hyb HPr
        have hw1 : IntKind.i64.wrap (S + d) = S + d := IntWalk.i64_in _ (by omega)
        have hmd : (S + d).tmod 10 = (S + d) % 10 := Int.tmod_eq_emod_of_nonneg (by omega)
        have hw2 : IntKind.i64.wrap ((S + d) % 10) = (S + d) % 10 := IntWalk.i64_in _ (by omega)
        have hw4 : IntKind.i64.wrap (y0 - x0) = y0 - x0 := IntWalk.i64_in _ (by omega)
        have hw5 : IntKind.i64.wrap (y1 - x1) = y1 - x1 := IntWalk.i64_in _ (by omega)
        have hwk : IntKind.i64.wrap ((k : Int) + 1) = ((k + 1 : Nat) : Int) := (IntWalk.i64_in _ (by omega)).trans (by omega)
        clear hS hxk hxp hyp hal hA hd ih
        go_enter Try.func75, Try.ntmps75
        go_wp2_with fail
        refine hRod.out.mono ?_; rintro e w2 ⟨rfl, n2, hw2'⟩
        have HA2 := Lib.hid (HA.out.below (below_eqA hw2'))
        clear hw2' c0 c1 c2 c3 c4
        go_wp2_with fail
        refine (HDi.out _ HA2.out.at).mono ?_; rintro e w3 ⟨rfl, hb3⟩
        have hba := (Below.refl w3.heap.size w3).alloc (Nat.le_refl _) (.cells #[.int .i64 y0, .int .i64 y1] 98)
        have HA4 := Lib.hid ((HA2.out.below hb3).below hba)
        have HQ4 := Lib.hid (heap_alloc_new w3 (.cells #[.int .i64 y0, .int .i64 y1] 98))
        have hg8 := ((HA2.out.below hb3).row.lt g rfl).2
        clear hb3 hba
        go_upto_region 7 with (fail)
        generalize w3.alloc (.cells #[.int .i64 y0, .int .i64 y1] 98) = w4 at *
        generalize w3.heap.size = q8 at *
        obtain ⟨⟨c0, c1, c2, c3, c4⟩, _⟩ := five_atB HA4.out.st
        obtain ⟨⟨r0, r1⟩, _⟩ := HA4.out.pre hkc
        rw [Hxk.out] at r0 r1
        dsimp only at r0 r1
        have hba := (Below.refl w4.heap.size w4).alloc (Nat.le_refl _) (.cells #[.int .i64 x0, .int .i64 x1] 98)
        have HA5 := Lib.hid (HA4.out.below hba)
        have HQ5 := Lib.hid (heap_alloc_new w4 (.cells #[.int .i64 x0, .int .i64 x1] 98))
        have HQ45 := Lib.hid ((hba.block _ (blk_ltN HQ4.out)).trans HQ4.out)
        clear hba
        go_upto_region 8 with (fail)
        generalize w4.alloc (.cells #[.int .i64 x0, .int .i64 x1] 98) = w5 at *
        generalize w4.heap.size = q9 at *
        clear c0 c1 c2 c3 c4 r0 r1
        obtain ⟨⟨c0, c1, c2, c3, c4⟩, _⟩ := five_atB HA5.out.st
        obtain ⟨o0, o1, _, _⟩ := blk2 HQ45.out
        obtain ⟨t0, t1, _, _⟩ := blk2 HQ5.out
        obtain ⟨Am, cm, rfl⟩ := own_sl HA5.out.mv
        have hlm : ms.length + 1 ≤ maxLen := by simp [maxLen]; omega
        have hbm : (ms.length + 1) * 24 ≤ 140737488355328 := by omega
        have hz5 := HA5.out.bel.size
        have Hmv := Lib.hid HA5.out.mv
        have Hgl := Lib.hid (fun (v' : Value) (w' : World) (ho : w'.ownsRow W.heap.size 37 3 v' (ms.length + 1) (movesC ms ++ #[Value.int .i64 (k : Int), .int .i64 (y0 - x0), .int .i64 (y1 - x1)].toList)) hg => HA5.out.app (ms' := ms ++ [((k : Int), y0 - x0, y1 - x1)]) (by rw [List.length_append, movesC_snoc]; exact ho) hg)
        have hba2 := (Below.refl w5.heap.size w5).alloc (Nat.le_refl _) (.cells #[.int .i64 (k : Int), .int .i64 (y0 - x0), .int .i64 (y1 - x1)] 37)
        have c4b := (five_atB (HA5.out.below hba2).st).1.2.2.2.2
        have ob := blk2 ((hba2.block _ (blk_ltN HQ45.out)).trans HQ45.out)
        have tb := blk2 ((hba2.block _ (blk_ltN HQ5.out)).trans HQ5.out)
        clear hba2
        refine wp_region_noPanic ?_
        refine wp_region_L [21,20,19,18] (fun w' => w'.cell? ⟨s, 4, none⟩ = some (.slice Am ms.length cm) ∧ w'.cell? ⟨q8, 0, none⟩ = some (.int .i64 y0) ∧ w'.cell? ⟨q8, 1, none⟩ = some (.int .i64 y1) ∧ w'.cell? ⟨q9, 0, none⟩ = some (.int .i64 x0) ∧ w'.cell? ⟨q9, 1, none⟩ = some (.int .i64 x1)) (by kernel_rfl) (⟨c4, o0, o1, t0, t1⟩) (fun hHeld => ?_)
        refine take_F (i := 0) (d := some 43) (v := ?_) (by kernel_rfl) (by kernel_rfl) rfl rfl (by kernel_rfl) (by kernel_rfl) (by kernel_rfl) (fun _ _ _ h => h) (Or.inl ⟨by rfl, ?_⟩) (by assumption) ?_
        rotate_left
        · (intro w hSw; (try dsimp only at hSw); go_simp; (try rw [if_neg (by omega)]); (try (with_reducible rfl)))
        simp only [Act.put, List.setIfInBounds_toArray, List.set_cons_zero, List.set_cons_succ]
        refine take_F (i := 1) (d := some 44) (v := ?_) (by kernel_rfl) (by kernel_rfl) rfl rfl (by kernel_rfl) (by kernel_rfl) (by kernel_rfl) (fun _ _ _ h => h) (Or.inl ⟨by rfl, ?_⟩) (by assumption) ?_
        rotate_left
        · (intro w hSw; (try dsimp only at hSw); go_simp; (try rw [if_neg (by omega)]); (try (with_reducible rfl)))
        simp only [Act.put, List.setIfInBounds_toArray, List.set_cons_zero, List.set_cons_succ]
        refine take_F (i := 2) (d := some 45) (v := ?_) (by kernel_rfl) (by kernel_rfl) rfl rfl (by kernel_rfl) (by kernel_rfl) (by kernel_rfl) (fun _ _ _ h => h) (Or.inl ⟨by rfl, ?_⟩) (by assumption) ?_
        rotate_left
        · (intro w hSw; (try dsimp only at hSw); go_simp; (try rw [if_neg (by omega)]); (try (with_reducible rfl)))
        simp only [Act.put, List.setIfInBounds_toArray, List.set_cons_zero, List.set_cons_succ]
        refine take_F (i := 3) (d := some 46) (v := ?_) (by kernel_rfl) (by kernel_rfl) rfl rfl (by kernel_rfl) (by kernel_rfl) (by kernel_rfl) (fun _ _ _ h => h) (Or.inl ⟨by rfl, ?_⟩) (by assumption) ?_
        rotate_left
        · (intro w hSw; (try dsimp only at hSw); go_simp; (try rw [if_neg (by omega)]); (try (with_reducible rfl)))
        simp only [Act.put, List.setIfInBounds_toArray, List.set_cons_zero, List.set_cons_succ]
        refine take_L [4] (i := 4) (d := some 47) (v := ?_) (by kernel_rfl) (by kernel_rfl) (by kernel_rfl) (by kernel_rfl) rfl rfl (by kernel_rfl) (by kernel_rfl) (by kernel_rfl) (fun _ _ _ h => h) (Or.inl ⟨by rfl, ?_⟩) (by assumption) ?_
        rotate_left
        · (intro w hSw; (try dsimp only at hSw); go_simp; (try rw [if_neg (by omega)]); (try (with_reducible rfl)))
        simp only [Act.put, List.setIfInBounds_toArray, List.set_cons_zero, List.set_cons_succ]
        refine take_F (i := 5) (d := some 48) (v := ?_) (by kernel_rfl) (by kernel_rfl) rfl rfl (by kernel_rfl) (by kernel_rfl) (by kernel_rfl) (fun _ _ _ h => h) (Or.inl ⟨by rfl, ?_⟩) (by assumption) ?_
        rotate_left
        · (intro w hSw; (try dsimp only at hSw); go_simp; (try rw [if_neg (by omega)]); (try (with_reducible rfl)))
        simp only [Act.put, List.setIfInBounds_toArray, List.set_cons_zero, List.set_cons_succ]
        refine take_F (i := 6) (d := some 49) (v := ?_) (by kernel_rfl) (by kernel_rfl) rfl rfl (by kernel_rfl) (by kernel_rfl) (by kernel_rfl) (fun _ _ _ h => h) (Or.inl ⟨by rfl, ?_⟩) (by assumption) ?_
        rotate_left
        · (intro w hSw; (try dsimp only at hSw); go_simp; (try rw [if_neg (by omega)]); (try (with_reducible rfl)))
        simp only [Act.put, List.setIfInBounds_toArray, List.set_cons_zero, List.set_cons_succ]
        refine take_L [17,16,10,7] (i := 7) (d := some 50) (v := ?_) (by kernel_rfl) (by kernel_rfl) (by kernel_rfl) (by kernel_rfl) rfl rfl (by kernel_rfl) (by kernel_rfl) (by kernel_rfl) (fun _ _ _ h => h) (Or.inl ⟨by rfl, ?_⟩) (by assumption) ?_
        rotate_left
        · (intro w hSw; (try dsimp only at hSw); go_simp; (try rw [if_neg (by omega)]); (try (with_reducible rfl)))
        simp only [Act.put, List.setIfInBounds_toArray, List.set_cons_zero, List.set_cons_succ]
        refine take_F (i := 8) (d := some 51) (v := ?_) (by kernel_rfl) (by kernel_rfl) rfl rfl (by kernel_rfl) (by kernel_rfl) (by kernel_rfl) (fun _ _ _ h => h) (Or.inl ⟨by rfl, ?_⟩) (by assumption) ?_
        rotate_left
        · (intro w hSw; (try dsimp only at hSw); go_simp; (try rw [if_neg (by omega)]); (try (with_reducible rfl)))
        simp only [Act.put, List.setIfInBounds_toArray, List.set_cons_zero, List.set_cons_succ]
        refine take_L [17,16,10,9] (i := 9) (d := some 52) (v := ?_) (by kernel_rfl) (by kernel_rfl) (by kernel_rfl) (by kernel_rfl) rfl rfl (by kernel_rfl) (by kernel_rfl) (by kernel_rfl) (fun _ _ _ h => h) (Or.inl ⟨by rfl, ?_⟩) (by assumption) ?_
        rotate_left
        · (intro w hSw; (try dsimp only at hSw); go_simp; (try rw [if_neg (by omega)]); (try (with_reducible rfl)))
        simp only [Act.put, List.setIfInBounds_toArray, List.set_cons_zero, List.set_cons_succ]
        refine take_F (i := 10) (d := some 53) (v := ?_) (by kernel_rfl) (by kernel_rfl) rfl rfl (by kernel_rfl) (by kernel_rfl) (by kernel_rfl) (fun _ _ _ h => h) (Or.inl ⟨by rfl, ?_⟩) (by assumption) ?_
        rotate_left
        · (intro w hSw; (try dsimp only at hSw); go_simp; (try rw [if_neg (by omega)]); (try (with_reducible rfl)))
        simp only [Act.put, List.setIfInBounds_toArray, List.set_cons_zero, List.set_cons_succ]
        refine take_F (i := 11) (d := some 54) (v := ?_) (by kernel_rfl) (by kernel_rfl) rfl rfl (by kernel_rfl) (by kernel_rfl) (by kernel_rfl) (fun _ _ _ h => h) (Or.inl ⟨by rfl, ?_⟩) (by assumption) ?_
        rotate_left
        · (intro w hSw; (try dsimp only at hSw); go_simp; (try rw [if_neg (by omega)]); (try (with_reducible rfl)))
        simp only [Act.put, List.setIfInBounds_toArray, List.set_cons_zero, List.set_cons_succ]
        refine take_L [17,16,15,12] (i := 12) (d := some 55) (v := ?_) (by kernel_rfl) (by kernel_rfl) (by kernel_rfl) (by kernel_rfl) rfl rfl (by kernel_rfl) (by kernel_rfl) (by kernel_rfl) (fun _ _ _ h => h) (Or.inl ⟨by rfl, ?_⟩) (by assumption) ?_
        rotate_left
        · (intro w hSw; (try dsimp only at hSw); go_simp; (try rw [if_neg (by omega)]); (try (with_reducible rfl)))
        simp only [Act.put, List.setIfInBounds_toArray, List.set_cons_zero, List.set_cons_succ]
        refine take_F (i := 13) (d := some 56) (v := ?_) (by kernel_rfl) (by kernel_rfl) rfl rfl (by kernel_rfl) (by kernel_rfl) (by kernel_rfl) (fun _ _ _ h => h) (Or.inl ⟨by rfl, ?_⟩) (by assumption) ?_
        rotate_left
        · (intro w hSw; (try dsimp only at hSw); go_simp; (try rw [if_neg (by omega)]); (try (with_reducible rfl)))
        simp only [Act.put, List.setIfInBounds_toArray, List.set_cons_zero, List.set_cons_succ]
        refine take_L [17,16,15,14] (i := 14) (d := some 57) (v := ?_) (by kernel_rfl) (by kernel_rfl) (by kernel_rfl) (by kernel_rfl) rfl rfl (by kernel_rfl) (by kernel_rfl) (by kernel_rfl) (fun _ _ _ h => h) (Or.inl ⟨by rfl, ?_⟩) (by assumption) ?_
        rotate_left
        · (intro w hSw; (try dsimp only at hSw); go_simp; (try rw [if_neg (by omega)]); (try (with_reducible rfl)))
        simp only [Act.put, List.setIfInBounds_toArray, List.set_cons_zero, List.set_cons_succ]
        refine take_F (i := 15) (d := some 58) (v := ?_) (by kernel_rfl) (by kernel_rfl) rfl rfl (by kernel_rfl) (by kernel_rfl) (by kernel_rfl) (fun _ _ _ h => h) (Or.inl ⟨by rfl, ?_⟩) (by assumption) ?_
        rotate_left
        · (intro w hSw; (try dsimp only at hSw); go_simp; (try rw [if_neg (by omega)]); (try (with_reducible rfl)))
        simp only [Act.put, List.setIfInBounds_toArray, List.set_cons_zero, List.set_cons_succ]
        refine take_F (i := 16) (d := some 59) (v := ?_) (by kernel_rfl) (by kernel_rfl) rfl rfl (by kernel_rfl) (by kernel_rfl) (by kernel_rfl) (fun _ _ _ h => h) (Or.inl ⟨by rfl, ?_⟩) (by assumption) ?_
        rotate_left
        · (intro w hSw; (try dsimp only at hSw); go_simp; (try rw [if_neg (by omega)]); (try (with_reducible rfl)))
        simp only [Act.put, List.setIfInBounds_toArray, List.set_cons_zero, List.set_cons_succ]
        refine call_L (i := 17) (d := (some 60)) rfl rfl (by kernel_rfl) (fun Kq hKq => ?_)
        go_simp
        refine hKq.out _ _ (⟨c4b, ob.1, ob.2.1, tb.1, tb.2.1⟩) (fun hHeld => ?_)
        clear hKq Kq
        (try simp only [Act.put, List.setIfInBounds_toArray, List.set_cons_zero, List.set_cons_succ])
        refine late_L (i := 18) (d := (some 61)) (by kernel_rfl) rfl rfl (by kernel_rfl) (fun Kq hKq => ?_)
        refine step_apd 29 37 _ 3 24 Try.underlying29 infoMv rfl (by omega) _ _ (by rfl) (by rfl) W.heap.size _ ms.length _ (by rfl) Hmv.out #[.int .i64 (k : Int), .int .i64 (y0 - x0), .int .i64 (y1 - x1)] 1 1 (by rfl) (by rfl) (by simp [Value.oneCell']) hlm hbm hz5 ?_; intro v10 w10 hown10 hg10
        obtain ⟨hA10, hs10⟩ := Hgl.out v10 w10 hown10 hg10
        have HA10 := Lib.hid hA10
        have HQ10 := Lib.hid ((hg10.block _ (blk_ltN HQ45.out) (fun e => own_neT Hmv.out HQ45.out (by decide) e.symm)).trans HQ45.out)
        have s10 := five_atB (hs10.trans HA5.out.st)
        obtain ⟨A10, c10, rfl⟩ := own_sl hown10
        clear hA10 hs10 hown10 hg10 c0 c1 c2 c3 c4 o0 o1 t0 t1 c4b ob tb
        obtain ⟨⟨_, _, _, _, c4⟩, fz4⟩ := s10
        refine hKq.out _ _ ?_
        clear hKq Kq
        simp only [Act.put, List.setIfInBounds_toArray]
        refine late_L (i := 19) (d := (some 62)) (by kernel_rfl) rfl rfl (by kernel_rfl) (fun Kq hKq => ?_)
        go_simp
        refine hKq.out _ _ ?_
        clear hKq Kq
        refine late_L (i := 20) (d := (some 63)) (by kernel_rfl) rfl rfl (by kernel_rfl) (fun Kq hKq => ?_)
        go_simp
        refine hKq.out _ _ ?_
        clear hKq Kq
        refine late_L (i := 21) (d := none) (by kernel_rfl) rfl rfl (by kernel_rfl) (fun Kq hKq => ?_)
        go_simp
        refine hKq.out _ _ ?_
        clear hKq Kq
        refine done_L (by kernel_rfl) ?_ _
        refine NoPanic.normal ?_
        go_upto_region 9 with (fail)
        have hq8s : q8 ≠ s := fun e => by
          have h1 := HQ45.out
          rw [e, HA5.out.st] at h1
          injection h1 with h1
          injection h1 with _ h2 _
          exact absurd h2 (by decide)
        have HQ11 := Lib.hid (blk_setOther (i := 4) HQ10.out hq8s (.slice A10 (ms.length + 1) c10))
        clear c4 fz4
        generalize w10.setCell ⟨s, 4, none⟩ (.slice A10 (ms.length + 1) c10) = w11 at *
        obtain ⟨⟨c0, c1, c2, c3, c4⟩, _⟩ := five_atB HA10.out.st
        obtain ⟨o0, o1, _, _⟩ := blk2 HQ11.out
        obtain ⟨_, f0, f1⟩ := HA10.out.pre hkc
        obtain ⟨⟨r0, r1⟩, _⟩ := HA10.out.pre hkc
        have HA12 := Lib.hid (HA10.out.set hkn y0 y1)
        refine wp_region_noPanic ?_
        refine wp_region_L [8] (fun w' => w'.cell? ⟨s, 3, none⟩ = some (.slice (some ⟨g, 0, none⟩) n cap) ∧ w'.cell? ⟨q8, 0, none⟩ = some (.int .i64 y0) ∧ w'.cell? ⟨q8, 1, none⟩ = some (.int .i64 y1)) (by kernel_rfl) (⟨c3, o0, o1⟩) (fun hHeld => ?_)
        refine take_F (i := 0) (d := some 64) (v := ?_) (by kernel_rfl) (by kernel_rfl) rfl rfl (by kernel_rfl) (by kernel_rfl) (by kernel_rfl) (fun _ _ _ h => h) (Or.inl ⟨by rfl, ?_⟩) (by assumption) ?_
        rotate_left
        · (intro w hSw; (try dsimp only at hSw); go_simp; (try rw [if_neg (by omega)]); (try (with_reducible rfl)))
        simp only [Act.put, List.setIfInBounds_toArray, List.set_cons_zero, List.set_cons_succ]
        refine take_F (i := 1) (d := some 65) (v := ?_) (by kernel_rfl) (by kernel_rfl) rfl rfl (by kernel_rfl) (by kernel_rfl) (by kernel_rfl) (fun _ _ _ h => h) (Or.inl ⟨by rfl, ?_⟩) (by assumption) ?_
        rotate_left
        · (intro w hSw; (try dsimp only at hSw); go_simp; (try rw [if_neg (by omega)]); (try (with_reducible rfl)))
        simp only [Act.put, List.setIfInBounds_toArray, List.set_cons_zero, List.set_cons_succ]
        refine take_F (i := 2) (d := some 66) (v := ?_) (by kernel_rfl) (by kernel_rfl) rfl rfl (by kernel_rfl) (by kernel_rfl) (by kernel_rfl) (fun _ _ _ h => h) (Or.inl ⟨by rfl, ?_⟩) (by assumption) ?_
        rotate_left
        · (intro w hSw; (try dsimp only at hSw); go_simp; (try rw [if_neg (by omega)]); (try (with_reducible rfl)))
        simp only [Act.put, List.setIfInBounds_toArray, List.set_cons_zero, List.set_cons_succ]
        refine take_F (i := 3) (d := some 67) (v := ?_) (by kernel_rfl) (by kernel_rfl) rfl rfl (by kernel_rfl) (by kernel_rfl) (by kernel_rfl) (fun _ _ _ h => h) (Or.inl ⟨by rfl, ?_⟩) (by assumption) ?_
        rotate_left
        · (intro w hSw; (try dsimp only at hSw); go_simp; (try rw [if_neg (by omega)]); (try (with_reducible rfl)))
        simp only [Act.put, List.setIfInBounds_toArray, List.set_cons_zero, List.set_cons_succ]
        refine take_L [4] (i := 4) (d := some 68) (v := ?_) (by kernel_rfl) (by kernel_rfl) (by kernel_rfl) (by kernel_rfl) rfl rfl (by kernel_rfl) (by kernel_rfl) (by kernel_rfl) (fun _ _ _ h => h) (Or.inl ⟨by rfl, ?_⟩) (by assumption) ?_
        rotate_left
        · (intro w hSw; (try dsimp only at hSw); go_simp; (try rw [if_neg (by omega)]); (try (with_reducible rfl)))
        simp only [Act.put, List.setIfInBounds_toArray, List.set_cons_zero, List.set_cons_succ]
        refine take_F (i := 5) (d := some 69) (v := ?_) (by kernel_rfl) (by kernel_rfl) rfl rfl (by kernel_rfl) (by kernel_rfl) (by kernel_rfl) (fun _ _ _ h => h) (Or.inl ⟨by rfl, ?_⟩) (by assumption) ?_
        rotate_left
        · (intro w hSw; (try dsimp only at hSw); go_simp; (try rw [if_neg (by omega)]); (try (with_reducible rfl)))
        simp only [Act.put, List.setIfInBounds_toArray, List.set_cons_zero, List.set_cons_succ]
        refine take_L [6] (i := 6) (d := some 70) (v := ?_) (by kernel_rfl) (by kernel_rfl) (by kernel_rfl) (by kernel_rfl) rfl rfl (by kernel_rfl) (by kernel_rfl) (by kernel_rfl) (fun _ _ _ h => h) (Or.inl ⟨by rfl, ?_⟩) (by assumption) ?_
        rotate_left
        · (intro w hSw; (try dsimp only at hSw); go_simp; (try rw [if_neg (by omega)]); (try (with_reducible rfl)))
        simp only [Act.put, List.setIfInBounds_toArray, List.set_cons_zero, List.set_cons_succ]
        refine take_F (i := 7) (d := some 71) (v := ?_) (by kernel_rfl) (by kernel_rfl) rfl rfl (by kernel_rfl) (by kernel_rfl) (by kernel_rfl) (fun _ _ _ h => h) (Or.inl ⟨by rfl, ?_⟩) (by assumption) ?_
        rotate_left
        · (intro w hSw; (try dsimp only at hSw); go_simp; (try rw [if_neg (by omega)]); (try (with_reducible rfl)))
        simp only [Act.put, List.setIfInBounds_toArray, List.set_cons_zero, List.set_cons_succ]
        refine late_L (i := 8) (d := none) (by kernel_rfl) rfl rfl (by kernel_rfl) (fun Kq hKq => ?_)
        go_simp
        refine hKq.out _ _ ?_
        clear hKq Kq
        refine done_L (by kernel_rfl) ?_ _
        refine NoPanic.normal ?_
        go_upto_region 10 with (fail)
        clear c0 c1 c2 c3 c4 o0 o1 f0 f1 r0 r1
        generalize (w11.setCell ⟨g, k * 2, none⟩ (.int .i64 y0)).setCell ⟨g, k * 2 + 1, none⟩ (.int .i64 y1) = w12 at *
        have HA13 := Lib.hid (HA12.out.below (Below.refl w12.heap.size w12).drew)
        by_cases hlt10 : S + d < 10
        · have hz : (S + d) / 10 = 0 := by omega
          have HR := Lib.hid (show addR u w k d cur ms = some (cur.set k (y0, y1), ms ++ [((k : Int), y0 - x0, y1 - x1)]) by rw [HSt.out, hz, addR_zero])
          clear hz
          go_wp2_with fail
          go_ret
          exact RetSa.yes HA13.out (by rw [List.length_append]; show ms.length + 1 ≤ _; omega) HR.out Hal3.out
        · have hz : (S + d) / 10 = 1 := by omega
          have HR := Lib.hid (show addR u w k d cur ms = addR u w (k + 1) 1 (cur.set k (y0, y1)) (ms ++ [((k : Int), y0 - x0, y1 - x1)]) by rw [HSt.out, hz])
          have hml : (ms ++ [((k : Int), y0 - x0, y1 - x1)]).length = ms.length + 1 := by rw [List.length_append]; rfl
          have HC := Lib.hid (IH.out (k + 1) 1 (cur.set k (y0, y1)) _ (ms ++ [((k : Int), y0 - x0, y1 - x1)]) w12.drew (by omega) (by omega) (by omega) (by omega) (by omega) (by rw [hml]; omega) Hal3.out HA13.out)
          rw [hml] at HC
          clear hz hml
          go_wp2_with fail
          refine HC.out.mono ?_; rintro e w14 ⟨b, cur', vm', ms', rfl, hA14, hm14, hy14, hn14⟩
          have HA14 := Lib.hid hA14
          have HY14 := Lib.hid hy14
          have HN14 := Lib.hid hn14
          clear hA14 hy14 hn14
          go_wp2_with fail
          go_ret
          refine ⟨b, cur', vm', ms', rfl, HA14.out, by omega, fun hb => ?_, fun hb => ?_⟩
          · obtain ⟨g1, g2⟩ := HY14.out hb
            exact ⟨HR.out.trans g1, g2⟩
          · exact HR.out.trans (HN14.out hb)
    · have hnk' : (n : Int) ≤ (k : Int) := by omega
      by_cases hd : d = 0
      · have HR := Lib.hid (addR_z (u := u) (w := w) (k := k) (cur := cur) (ms := ms) hd)
        subst hd
        clear hA hal hcl ih
        go_enter Try.func75, Try.ntmps75
        go_wp2_with fail
        go_ret
        exact RetSa.yes HA.out (by omega) HR.out Hal.out
      · have HR := Lib.hid (addR_full u w (ms := ms) (show cur.length ≤ k by omega) hd)
        have hd' : (d == 0) = false := by rw [beq_eq_false_iff_ne]; exact hd
        clear hA hal hcl hd ih
        go_enter Try.func75, Try.ntmps75
        go_wp2_with fail
        go_ret
        exact RetSa.no HA.out (by omega) HR.out
end Go.Proofs.Ytemcdmjnokpldaa
