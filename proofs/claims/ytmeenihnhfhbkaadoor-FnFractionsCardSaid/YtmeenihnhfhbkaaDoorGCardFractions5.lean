/- Merged texts: Fr6, Fr7, Fr4, U3. -/
import Derived.Test.YtmeenihnhfhbkaaDoorGCardFractions2
import Derived.Test.YtmeenihnhfhbkaaDoorGCardFractions4
import Derived.Test.YtmeenihnhfhbkaaDoorGCardFractions1
/- Fractions, part 6: FractionText and ReadFraction, both sides. -/
namespace Go.Proofs.YtmeenihnhfhbkaaDoor
open Go.RowKit Go.Joins

theorem ba_beq {x y : ByteArray} : (x.toList == y.toList) = decide (x = y) := by
  by_cases h : x = y
  · subst h; simp
  · rw [decide_eq_false h, beq_eq_false_iff_ne]
    exact fun e => h (ba_inj e)
theorem ret_strQ {a b : ByteArray} (h : a = b) : Ending.returned (.string a) = .returned (.string b) := by rw [h]
theorem box1 (w : World) (a b : Value) : Q2 (w.alloc (.cells #[a, b] 25)) w.heap.size a b ∧ Below w.heap.size w (w.alloc (.cells #[a, b] 25)) := ⟨Q2.new w a b _, (Below.refl _ _).alloc (Nat.le_refl _) _⟩
theorem textQ_one (N : Int) : textQ N 1 = decS N := by unfold textQ; rw [if_pos rfl]
theorem textQ_two {N D : Int} (h : ¬ D = 1) : textQ N D = decS N ++ ⟨#[47]⟩ ++ decS D := by unfold textQ; rw [if_neg h]
theorem textQ_size (N D : Int) (n0 : -9223372036854775808 ≤ N) (n1 : N ≤ 9223372036854775807) (d0 : -9223372036854775808 ≤ D) (d1 : D ≤ 9223372036854775807) : (textQ N D).size ≤ 41 := by
  have h1 := decS_size N n0 n1
  have h2 := decS_size D d0 d1
  unfold textQ
  split
  · omega
  · rw [ByteArray.size_append, ByteArray.size_append]
    have : (⟨#[47]⟩ : ByteArray).size = 1 := rfl
    omega
set_option maxRecDepth 100000 in
set_option maxHeartbeats 1600000 in
theorem l19Text_any (N D : Int) (w : World) (n0 : -9223372036854775808 ≤ N) (n1 : N ≤ 9223372036854775807) (d0 : -9223372036854775808 ≤ D) (d1 : D ≤ 9223372036854775807) :
    Calls Tryd.prog 72 #[aggQ N D] w fun e w' => e = .returned (.string (textQ N D)) ∧ Below w.heap.size w w' := by
  obtain ⟨hq, hbw⟩ := box1 w (.int .i64 N) (.int .i64 D)
  have HQ := Lib.hid hq
  have HBw := Lib.hid hbw
  have HN := Lib.hid (fun wx => l01Dec_any N wx n0 n1)
  have HD := Lib.hid (fun wx => l01Dec_any D wx d0 d1)
  clear hq hbw
  by_cases h1 : D = 1
  · subst h1
    have Hr := Lib.hid (textQ_one N)
    go_enter Tryd.func72, Tryd.ntmps72
    go_upto_region 1 with (fail)
    generalize w.alloc (.cells #[.int .i64 N, .int .i64 1] 25) = wb at *
    obtain ⟨z0, z1⟩ := HQ.out.c
    go_wp2_with fail
    refine (HN.out _).mono ?_; rintro e w5 ⟨rfl, hb5⟩
    have HB5 := Lib.hid (HBw.out.trans (hb5.mono HBw.out.size))
    clear hb5
    go_wp2_with fail
    go_ret
    exact ⟨ret_strQ Hr.out.symm, HB5.out⟩
  · have s1 := decS_size N (by omega) (by omega)
    have s2 := decS_size D (by omega) (by omega)
    have Hr := Lib.hid (textQ_two (N := N) h1)
    have h1b : (D == 1) = false := by simp [h1]
    generalize decS N = x at *
    generalize decS D = y at *
    have p1 : (x ++ ⟨#[47]⟩ : ByteArray).size = x.size + 1 := ByteArray.size_append
    have p2 : (x ++ ⟨#[47]⟩ ++ y : ByteArray).size = x.size + 1 + y.size := by rw [ByteArray.size_append, p1]
    go_enter Tryd.func72, Tryd.ntmps72
    go_upto_region 1 with (fail)
    generalize w.alloc (.cells #[.int .i64 N, .int .i64 D] 25) = wb at *
    obtain ⟨z0, z1⟩ := HQ.out.c
    go_upto_region 3 with (fail)
    refine wp_region_noPanic ?_
    refine wp_region_L [] (fun w' => w'.cell? ⟨w.heap.size, 0, none⟩ = some (.int .i64 N) ∧ w'.cell? ⟨w.heap.size, 1, none⟩ = some (.int .i64 D)) (by kernel_rfl) (⟨z0, z1⟩) (fun hHeld => ?_)
    refine take_F (i := 0) (d := some 9) (v := ?_) (by kernel_rfl) (by kernel_rfl) rfl rfl (by kernel_rfl) (by kernel_rfl) (by kernel_rfl) (fun _ _ _ h => h) (Or.inl ⟨by rfl, ?_⟩) (by assumption) ?_
    rotate_left
    · (intro w hSw; (try dsimp only at hSw); go_simp; (try rw [if_neg (by omega)]); (try (with_reducible rfl)))
    simp only [Act.put, List.setIfInBounds_toArray, List.set_cons_zero, List.set_cons_succ]
    refine take_L [1] (i := 1) (d := some 10) (v := ?_) (by kernel_rfl) (by kernel_rfl) (by kernel_rfl) (by kernel_rfl) rfl rfl (by kernel_rfl) (by kernel_rfl) (by kernel_rfl) (fun _ _ _ h => h) (Or.inl ⟨by rfl, ?_⟩) (by assumption) ?_
    rotate_left
    · (intro w hSw; (try dsimp only at hSw); go_simp; (try rw [if_neg (by omega)]); (try (with_reducible rfl)))
    simp only [Act.put, List.setIfInBounds_toArray, List.set_cons_zero, List.set_cons_succ]
    refine take_F (i := 4) (d := some 13) (v := ?_) (by kernel_rfl) (by kernel_rfl) rfl rfl (by kernel_rfl) (by kernel_rfl) (by kernel_rfl) (fun _ _ _ h => h) (Or.inl ⟨by rfl, ?_⟩) (by assumption) ?_
    rotate_left
    · (intro w hSw; (try dsimp only at hSw); go_simp; (try rw [if_neg (by omega)]); (try (with_reducible rfl)))
    simp only [Act.put, List.setIfInBounds_toArray, List.set_cons_zero, List.set_cons_succ]
    refine take_L [5] (i := 5) (d := some 14) (v := ?_) (by kernel_rfl) (by kernel_rfl) (by kernel_rfl) (by kernel_rfl) rfl rfl (by kernel_rfl) (by kernel_rfl) (by kernel_rfl) (fun _ _ _ h => h) (Or.inl ⟨by rfl, ?_⟩) (by assumption) ?_
    rotate_left
    · (intro w hSw; (try dsimp only at hSw); go_simp; (try rw [if_neg (by omega)]); (try (with_reducible rfl)))
    simp only [Act.put, List.setIfInBounds_toArray, List.set_cons_zero, List.set_cons_succ]
    refine call_L (i := 2) (d := (some 11)) rfl rfl (by kernel_rfl) (fun Kq hKq => ?_)
    go_simp
    go_at_call 98
    refine (HN.out _).mono ?_; rintro e w5 ⟨rfl, hb5⟩
    have HQ5 := Lib.hid (HQ.out.below (below_undrew hb5))
    have HB5 := Lib.hid (HBw.out.trans ((below_undrew hb5).mono HBw.out.size))
    clear hb5 z0 z1
    obtain ⟨z0, z1⟩ := HQ5.out.c
    (try go_wp2_with fail)
    refine hKq.out _ _ (⟨z0, z1⟩) (fun hHeld => ?_)
    clear hKq Kq
    (try simp only [Act.put, List.setIfInBounds_toArray, List.set_cons_zero, List.set_cons_succ])
    refine take_F (i := 3) (d := some 12) (v := ?_) (by kernel_rfl) (by kernel_rfl) rfl rfl (by kernel_rfl) (by kernel_rfl) (by kernel_rfl) (fun _ _ _ h => h) (Or.inl ⟨by rfl, ?_⟩) (by assumption) ?_
    rotate_left
    · (intro w hSw; (try dsimp only at hSw); go_simp; (try rw [if_neg (by omega)]); (try (with_reducible rfl)))
    simp only [Act.put, List.setIfInBounds_toArray, List.set_cons_zero, List.set_cons_succ]
    refine call_L (i := 6) (d := (some 15)) rfl rfl (by kernel_rfl) (fun Kq hKq => ?_)
    go_simp
    go_at_call 98
    refine (HD.out _).mono ?_; rintro e w6 ⟨rfl, hb6⟩
    have HQ6 := Lib.hid (HQ5.out.below hb6)
    have HB6 := Lib.hid (HB5.out.trans (hb6.mono HB5.out.size))
    clear hb6 z0 z1
    obtain ⟨z0, z1⟩ := HQ6.out.c
    (try go_wp2_with fail)
    refine hKq.out _ _ (⟨z0, z1⟩) (fun hHeld => ?_)
    clear hKq Kq
    (try simp only [Act.put, List.setIfInBounds_toArray, List.set_cons_zero, List.set_cons_succ])
    refine take_F (i := 7) (d := some 16) (v := ?_) (by kernel_rfl) (by kernel_rfl) rfl rfl (by kernel_rfl) (by kernel_rfl) (by kernel_rfl) (fun _ _ _ h => h) (Or.inl ⟨by rfl, ?_⟩) (by assumption) ?_
    rotate_left
    · (intro w hSw; (try dsimp only at hSw); go_simp; (try rw [if_neg (by omega)]); (try (with_reducible rfl)))
    simp only [Act.put, List.setIfInBounds_toArray, List.set_cons_zero, List.set_cons_succ]
    refine take_F (i := 8) (d := some 2) (v := ?_) (by kernel_rfl) (by kernel_rfl) rfl rfl (by kernel_rfl) (by kernel_rfl) (by kernel_rfl) (fun _ _ _ h => h) (Or.inl ⟨by rfl, ?_⟩) (by assumption) ?_
    rotate_left
    · (intro w hSw; (try dsimp only at hSw); go_simp; (try rw [if_neg (by omega)]); (try (with_reducible rfl)))
    simp only [Act.put, List.setIfInBounds_toArray, List.set_cons_zero, List.set_cons_succ]
    refine done_L (by kernel_rfl) ?_ _
    refine NoPanic.normal ?_
    go_wp2_with fail
    go_ret
    exact ⟨ret_strQ Hr.out.symm, HB6.out⟩
set_option maxRecDepth 100000 in
set_option maxHeartbeats 1600000 in
theorem FTextI_any (N D : Int) (w : World) (ht : Tab w) : Calls Tryd.prog 19 #[aggQ N D] w fun e w' => e = .returned (.string (ftxQ N D)) ∧ Below w.heap.size w w' := by
  obtain ⟨hq, hbw⟩ := box1 w (.int .i64 N) (.int .i64 D)
  have HQ0 := Lib.hid hq
  have HB0 := Lib.hid hbw
  have HP := Lib.hid (fun wx => isPlain_any N D wx)
  have HTb := Lib.hid (fun w2 (hb : Below w.heap.size w w2) => ht.below hb)
  clear hq hbw
  cases ho : okQ N D with
  | false =>
    have Hr := Lib.hid (show ftxQ N D = ⟨#[]⟩ by unfold ftxQ; rw [ho]; rfl)
    rw [ho] at HP
    clear ho
    go_enter Tryd.func19, Tryd.ntmps19
    go_upto_region 1 with (fail)
    generalize w.alloc (.cells #[.int .i64 N, .int .i64 D] 25) = wb at *
    obtain ⟨z0, z1⟩ := HQ0.out.c
    go_wp2_with fail
    refine (HP.out _).mono ?_; rintro e w5 ⟨rfl, hb5⟩
    have HB5 := Lib.hid (HB0.out.trans (hb5.mono HB0.out.size))
    clear hb5
    go_wp2_with fail
    go_ret
    exact ⟨ret_strQ Hr.out.symm, HB5.out⟩
  | true =>
    obtain ⟨ra, rb, _⟩ := okQ_iff.1 ho
    have Hft := Lib.hid (show ftxQ N D = textQ N D by unfold ftxQ; rw [ho]; rfl)
    rw [ho] at HP
    clear ho
    have HN := Lib.hid (fun wx hx => Decimal_any N wx (by omega) (by omega) hx)
    have HD := Lib.hid (fun wx hx => Decimal_any D wx (by omega) (by omega) hx)
    by_cases h1 : D = 1
    · subst h1
      have Hr := Lib.hid (Hft.out.trans (textQ_one N))
      go_enter Tryd.func19, Tryd.ntmps19
      go_upto_region 1 with (fail)
      generalize w.alloc (.cells #[.int .i64 N, .int .i64 1] 25) = wb at *
      obtain ⟨z0, z1⟩ := HQ0.out.c
      go_wp2_with fail
      refine (HP.out _).mono ?_; rintro e w4 ⟨rfl, hb4⟩
      have HBw := Lib.hid (HB0.out.trans (hb4.mono HB0.out.size))
      have HQ := Lib.hid (HQ0.out.below hb4)
      clear hb4 z0 z1
      obtain ⟨z0, z1⟩ := HQ.out.c
      go_wp2_with fail
      refine (HN.out _ (HTb.out _ HBw.out)).mono ?_; rintro e w5 ⟨rfl, hb5⟩
      have HB5 := Lib.hid (HBw.out.trans (hb5.mono HBw.out.size))
      clear hb5
      go_wp2_with fail
      go_ret
      exact ⟨ret_strQ Hr.out.symm, HB5.out⟩
    · have s1 := decS_size N (by omega) (by omega)
      have s2 := decS_size D (by omega) (by omega)
      have Hr := Lib.hid (Hft.out.trans (textQ_two (N := N) h1))
      have h1b : (D == 1) = false := by simp [h1]
      generalize decS N = x at *
      generalize decS D = y at *
      have p1 : (x ++ ⟨#[47]⟩ : ByteArray).size = x.size + 1 := ByteArray.size_append
      have p2 : (x ++ ⟨#[47]⟩ ++ y : ByteArray).size = x.size + 1 + y.size := by rw [ByteArray.size_append, p1]
      go_enter Tryd.func19, Tryd.ntmps19
      go_upto_region 1 with (fail)
      generalize w.alloc (.cells #[.int .i64 N, .int .i64 D] 25) = wb at *
      obtain ⟨z0, z1⟩ := HQ0.out.c
      go_wp2_with fail
      refine (HP.out _).mono ?_; rintro e w4 ⟨rfl, hb4⟩
      have HBw := Lib.hid (HB0.out.trans (hb4.mono HB0.out.size))
      have HQ := Lib.hid (HQ0.out.below hb4)
      clear hb4 z0 z1
      obtain ⟨z0, z1⟩ := HQ.out.c
      go_upto_region 5 with (fail)
      refine wp_region_noPanic ?_
      refine wp_region_L [] (fun w' => w'.cell? ⟨w.heap.size, 0, none⟩ = some (.int .i64 N) ∧ w'.cell? ⟨w.heap.size, 1, none⟩ = some (.int .i64 D)) (by kernel_rfl) (⟨z0, z1⟩) (fun hHeld => ?_)
      refine take_F (i := 0) (d := some 12) (v := ?_) (by kernel_rfl) (by kernel_rfl) rfl rfl (by kernel_rfl) (by kernel_rfl) (by kernel_rfl) (fun _ _ _ h => h) (Or.inl ⟨by rfl, ?_⟩) (by assumption) ?_
      rotate_left
      · (intro w hSw; (try dsimp only at hSw); go_simp; (try rw [if_neg (by omega)]); (try (with_reducible rfl)))
      simp only [Act.put, List.setIfInBounds_toArray, List.set_cons_zero, List.set_cons_succ]
      refine take_L [1] (i := 1) (d := some 13) (v := ?_) (by kernel_rfl) (by kernel_rfl) (by kernel_rfl) (by kernel_rfl) rfl rfl (by kernel_rfl) (by kernel_rfl) (by kernel_rfl) (fun _ _ _ h => h) (Or.inl ⟨by rfl, ?_⟩) (by assumption) ?_
      rotate_left
      · (intro w hSw; (try dsimp only at hSw); go_simp; (try rw [if_neg (by omega)]); (try (with_reducible rfl)))
      simp only [Act.put, List.setIfInBounds_toArray, List.set_cons_zero, List.set_cons_succ]
      refine take_F (i := 4) (d := some 16) (v := ?_) (by kernel_rfl) (by kernel_rfl) rfl rfl (by kernel_rfl) (by kernel_rfl) (by kernel_rfl) (fun _ _ _ h => h) (Or.inl ⟨by rfl, ?_⟩) (by assumption) ?_
      rotate_left
      · (intro w hSw; (try dsimp only at hSw); go_simp; (try rw [if_neg (by omega)]); (try (with_reducible rfl)))
      simp only [Act.put, List.setIfInBounds_toArray, List.set_cons_zero, List.set_cons_succ]
      refine take_L [5] (i := 5) (d := some 17) (v := ?_) (by kernel_rfl) (by kernel_rfl) (by kernel_rfl) (by kernel_rfl) rfl rfl (by kernel_rfl) (by kernel_rfl) (by kernel_rfl) (fun _ _ _ h => h) (Or.inl ⟨by rfl, ?_⟩) (by assumption) ?_
      rotate_left
      · (intro w hSw; (try dsimp only at hSw); go_simp; (try rw [if_neg (by omega)]); (try (with_reducible rfl)))
      simp only [Act.put, List.setIfInBounds_toArray, List.set_cons_zero, List.set_cons_succ]
      refine call_L (i := 2) (d := (some 14)) rfl rfl (by kernel_rfl) (fun Kq hKq => ?_)
      go_simp
      go_at_call 69
      refine (HN.out _ (HTb.out _ HBw.out.drew)).mono ?_; rintro e w5 ⟨rfl, hb5⟩
      have HQ5 := Lib.hid (HQ.out.below (below_undrew hb5))
      have HB5 := Lib.hid (HBw.out.trans ((below_undrew hb5).mono HBw.out.size))
      clear hb5 z0 z1
      obtain ⟨z0, z1⟩ := HQ5.out.c
      (try go_wp2_with fail)
      refine hKq.out _ _ (⟨z0, z1⟩) (fun hHeld => ?_)
      clear hKq Kq
      (try simp only [Act.put, List.setIfInBounds_toArray, List.set_cons_zero, List.set_cons_succ])
      refine take_F (i := 3) (d := some 15) (v := ?_) (by kernel_rfl) (by kernel_rfl) rfl rfl (by kernel_rfl) (by kernel_rfl) (by kernel_rfl) (fun _ _ _ h => h) (Or.inl ⟨by rfl, ?_⟩) (by assumption) ?_
      rotate_left
      · (intro w hSw; (try dsimp only at hSw); go_simp; (try rw [if_neg (by omega)]); (try (with_reducible rfl)))
      simp only [Act.put, List.setIfInBounds_toArray, List.set_cons_zero, List.set_cons_succ]
      refine call_L (i := 6) (d := (some 18)) rfl rfl (by kernel_rfl) (fun Kq hKq => ?_)
      go_simp
      go_at_call 69
      refine (HD.out _ (HTb.out _ HB5.out)).mono ?_; rintro e w6 ⟨rfl, hb6⟩
      have HQ6 := Lib.hid (HQ5.out.below hb6)
      have HB6 := Lib.hid (HB5.out.trans (hb6.mono HB5.out.size))
      clear hb6 z0 z1
      obtain ⟨z0, z1⟩ := HQ6.out.c
      (try go_wp2_with fail)
      refine hKq.out _ _ (⟨z0, z1⟩) (fun hHeld => ?_)
      clear hKq Kq
      (try simp only [Act.put, List.setIfInBounds_toArray, List.set_cons_zero, List.set_cons_succ])
      refine take_F (i := 7) (d := some 19) (v := ?_) (by kernel_rfl) (by kernel_rfl) rfl rfl (by kernel_rfl) (by kernel_rfl) (by kernel_rfl) (fun _ _ _ h => h) (Or.inl ⟨by rfl, ?_⟩) (by assumption) ?_
      rotate_left
      · (intro w hSw; (try dsimp only at hSw); go_simp; (try rw [if_neg (by omega)]); (try (with_reducible rfl)))
      simp only [Act.put, List.setIfInBounds_toArray, List.set_cons_zero, List.set_cons_succ]
      refine take_F (i := 8) (d := some 2) (v := ?_) (by kernel_rfl) (by kernel_rfl) rfl rfl (by kernel_rfl) (by kernel_rfl) (by kernel_rfl) (fun _ _ _ h => h) (Or.inl ⟨by rfl, ?_⟩) (by assumption) ?_
      rotate_left
      · (intro w hSw; (try dsimp only at hSw); go_simp; (try rw [if_neg (by omega)]); (try (with_reducible rfl)))
      simp only [Act.put, List.setIfInBounds_toArray, List.set_cons_zero, List.set_cons_succ]
      refine done_L (by kernel_rfl) ?_ _
      refine NoPanic.normal ?_
      go_wp2_with fail
      go_ret
      exact ⟨ret_strQ Hr.out.symm, HB6.out⟩
set_option maxRecDepth 100000 in
set_option maxHeartbeats 1600000 in
theorem FTextS_any (N D : Int) (w : World) : Calls Tryd.prog 24 #[aggQ N D] w fun e w' => e = .returned (.string (ftxQ N D)) ∧ Below w.heap.size w w' := by
  obtain ⟨hq, hbw⟩ := box1 w (.int .i64 N) (.int .i64 D)
  have HQ0 := Lib.hid hq
  have HB0 := Lib.hid hbw
  have HP := Lib.hid (fun wx => l19Ok_any N D wx)
  clear hq hbw
  cases ho : okQ N D with
  | false =>
    have Hr := Lib.hid (show ftxQ N D = ⟨#[]⟩ by unfold ftxQ; rw [ho]; rfl)
    rw [ho] at HP
    clear ho
    go_enter Tryd.func24, Tryd.ntmps24
    go_upto_region 1 with (fail)
    generalize w.alloc (.cells #[.int .i64 N, .int .i64 D] 25) = wb at *
    obtain ⟨z0, z1⟩ := HQ0.out.c
    go_wp2_with fail
    refine (HP.out _).mono ?_; rintro e w5 ⟨rfl, hb5⟩
    have HB5 := Lib.hid (HB0.out.trans (hb5.mono HB0.out.size))
    clear hb5
    go_wp2_with fail
    go_ret
    exact ⟨ret_strQ Hr.out.symm, HB5.out⟩
  | true =>
    obtain ⟨ra, rb, _⟩ := okQ_iff.1 ho
    have Hft := Lib.hid (show ftxQ N D = textQ N D by unfold ftxQ; rw [ho]; rfl)
    rw [ho] at HP
    clear ho
    have HT := Lib.hid (fun wx => l19Text_any N D wx (by omega) (by omega) (by omega) (by omega))
    go_enter Tryd.func24, Tryd.ntmps24
    go_upto_region 1 with (fail)
    generalize w.alloc (.cells #[.int .i64 N, .int .i64 D] 25) = wb at *
    obtain ⟨z0, z1⟩ := HQ0.out.c
    go_wp2_with fail
    refine (HP.out _).mono ?_; rintro e w4 ⟨rfl, hb4⟩
    have HBw := Lib.hid (HB0.out.trans (hb4.mono HB0.out.size))
    have HQ := Lib.hid (HQ0.out.below hb4)
    clear hb4 z0 z1
    obtain ⟨z0, z1⟩ := HQ.out.c
    go_wp2_with fail
    refine (HT.out _).mono ?_; rintro e w5 ⟨rfl, hb5⟩
    have HB5 := Lib.hid (HBw.out.trans (hb5.mono HBw.out.size))
    clear hb5
    go_wp2_with fail
    go_ret
    exact ⟨ret_strQ Hft.out.symm, HB5.out⟩
/-- a fraction and whether there is one -/
def RetRF (s : ByteArray) (w : World) (e : Ending) (w' : World) : Prop := e = .returned (.tuple #[aggQ ((rdFr s).getD (0, 0)).1 ((rdFr s).getD (0, 0)).2, .bool (rdFr s).isSome]) ∧ Below w.heap.size w w'
theorem FrB.set1 {W wr : World} {r : Nat} {x y : Value} (h : FrB W wr r x y) (b : Value) : FrB W (wr.setCell ⟨r, 1, none⟩ b) r x b :=
  ⟨heap_setCell_same _ r 1 _ _ b h.res, h.bel.setCell (p := ⟨r, 1, none⟩) h.lr b, h.lr⟩
theorem FrB.othr1 {W wr : World} {r r2 : Nat} {x y : Value} (h : FrB W wr r x y) (hr : r2 ≠ r) (b : Value) (hl : W.heap.size ≤ r2) : FrB W (wr.setCell ⟨r2, 1, none⟩ b) r x y :=
  ⟨(Below.heap_setCell _ _ _ _ (fun e => hr e.symm)).trans h.res, h.bel.setCell (p := ⟨r2, 1, none⟩) hl b, h.lr⟩
set_option maxRecDepth 100000 in
set_option maxHeartbeats 6400000 in
theorem ReadFI_any (s : ByteArray) (w : World) (hs : s.size ≤ 1073741824) (ht : Tab w) : Calls Tryd.prog 20 #[.string s] w (RetRF s w) := by
  have HR := Lib.hid (show FrB w (w.alloc (.cells #[.int .i64 0, .int .i64 0] 25)) w.heap.size (.int .i64 0) (.int .i64 0) from FrB.new (Below.refl _ _) _ _)
  have HTb := Lib.hid (fun w2 (hb : Below w.heap.size w w2) => ht.below hb)
  have HC := Lib.hid (fun wx => cut_any s 47 wx hs)
  have hfl := fnd_le 47 s
  by_cases hf : fnd 47 s < s.size
  · have hd : decide (fnd 47 s < s.size) = true := decide_eq_true hf
    rw [hd] at HC
    have hx : (s.extract 0 (fnd 47 s)).size ≤ 1073741824 := by rw [ByteArray.size_extract]; omega
    have hy : (s.extract (fnd 47 s + 1) s.size).size ≤ 1073741824 := by rw [ByteArray.size_extract]; omega
    have HA := Lib.hid (fun wx hz => ReadDecimal_any (s.extract 0 (fnd 47 s)) wx hx hz)
    have HB := Lib.hid (fun wx hz => ReadDecimal_any (s.extract (fnd 47 s + 1) s.size) wx hy hz)
    have HV := Lib.hid (fun n d h1 h2 => two_test (s := s) (n := n) (d := d) hf h1 h2)
    have HNo := Lib.hid (fun h => two_none (s := s) hf h)
    generalize s.extract 0 (fnd 47 s) = x at *
    generalize s.extract (fnd 47 s + 1) s.size = y at *
    clear hd hf hfl hx hy
    unfold RetN1 at HA HB
    cases h1 : readN x with
    | none =>
      have Hr := Lib.hid (HNo.out (.inl h1))
      rw [h1] at HA
      obtain ⟨n2, hn2⟩ : ∃ n2, (readN y).getD 0 = n2 := ⟨_, rfl⟩
      rw [hn2] at HB
      clear hn2 h1
      go_enter Tryd.func20, Tryd.ntmps20
      go_upto_region 1 with (fail)
      generalize w.alloc (.cells #[.int .i64 0, .int .i64 0] 25) = w1 at *
      go_wp2_with fail
      refine (HC.out _).mono ?_; rintro e w2 ⟨rfl, q, rfl⟩
      have HR2 := Lib.hid (HR.out.drewN q)
      clear HR
      generalize w1.drewN q = wa at *
      go_wp2_with fail
      refine (HA.out _ (HTb.out _ HR2.out.bel)).mono ?_; rintro e wb ⟨rfl, hb⟩
      have HR3 := Lib.hid (HR2.out.below hb)
      clear hb HR2
      go_wp2_with fail
      refine (HB.out _ (HTb.out _ HR3.out.bel)).mono ?_; rintro e wc ⟨rfl, hb⟩
      have HR4 := Lib.hid (HR3.out.below hb)
      clear hb HR3
      go_upto_region 7 with (fail)
      have HT := Lib.hid (FrB.new (Below.refl wc.heap.size wc) (.int .i64 0) (.int .i64 n2))
      have HRa := Lib.hid (HR4.out.alloc (.cells #[.int .i64 0, .int .i64 n2] 25))
      have ht3 : w.heap.size < wc.heap.size := blk_ltF HR4.out.res
      generalize wc.alloc (.cells #[.int .i64 0, .int .i64 n2] 25) = wd at *
      generalize hg : wc.heap.size = t at *
      have Hg := Lib.hid hg
      clear hg
      obtain ⟨t0, t1, t2, t3⟩ := blk2 HT.out.res
      have HF := Lib.hid (HRa.out.put (.int .i64 0) (.int .i64 0))
      obtain ⟨k0, k1, _, _⟩ := blk2 HF.out.res
      obtain ⟨r0, r1, r2, r3⟩ := blk2 HRa.out.res
      go_wp2_with fail
      exact bodyPost_ret (v := .tuple #[aggQ 0 0, .bool false]) (by simp [results, Tryd.results20, go_sem, k0, k1]) rfl ⟨by rw [Hr.out]; rfl, HF.out.bel⟩
    | some n1 =>
      cases h2 : readN y with
      | none =>
        have Hr := Lib.hid (HNo.out (.inr h2))
        rw [h1] at HA
        rw [h2] at HB
        dsimp only [Option.getD, Option.isSome] at HA HB
        clear h1 h2
        go_enter Tryd.func20, Tryd.ntmps20
        go_upto_region 1 with (fail)
        generalize w.alloc (.cells #[.int .i64 0, .int .i64 0] 25) = w1 at *
        go_wp2_with fail
        refine (HC.out _).mono ?_; rintro e w2 ⟨rfl, q, rfl⟩
        have HR2 := Lib.hid (HR.out.drewN q)
        clear HR
        generalize w1.drewN q = wa at *
        go_wp2_with fail
        refine (HA.out _ (HTb.out _ HR2.out.bel)).mono ?_; rintro e wb ⟨rfl, hb⟩
        have HR3 := Lib.hid (HR2.out.below hb)
        clear hb HR2
        go_wp2_with fail
        refine (HB.out _ (HTb.out _ HR3.out.bel)).mono ?_; rintro e wc ⟨rfl, hb⟩
        have HR4 := Lib.hid (HR3.out.below hb)
        clear hb HR3
        go_upto_region 7 with (fail)
        have HT := Lib.hid (FrB.new (Below.refl wc.heap.size wc) (.int .i64 n1) (.int .i64 0))
        have HRa := Lib.hid (HR4.out.alloc (.cells #[.int .i64 n1, .int .i64 0] 25))
        have ht3 : w.heap.size < wc.heap.size := blk_ltF HR4.out.res
        generalize wc.alloc (.cells #[.int .i64 n1, .int .i64 0] 25) = wd at *
        generalize hg : wc.heap.size = t at *
        have Hg := Lib.hid hg
        clear hg
        obtain ⟨t0, t1, t2, t3⟩ := blk2 HT.out.res
        have HF := Lib.hid (HRa.out.put (.int .i64 0) (.int .i64 0))
        obtain ⟨k0, k1, _, _⟩ := blk2 HF.out.res
        obtain ⟨r0, r1, r2, r3⟩ := blk2 HRa.out.res
        go_wp2_with fail
        exact bodyPost_ret (v := .tuple #[aggQ 0 0, .bool false]) (by simp [results, Tryd.results20, go_sem, k0, k1]) rfl ⟨by rw [Hr.out]; rfl, HF.out.bel⟩
      | some n2 =>
        obtain ⟨hot, hov⟩ := HV.out n1 n2 h1 h2
        have HOt := Lib.hid hot
        have HOv := Lib.hid hov
        rw [h1] at HA
        rw [h2] at HB
        dsimp only [Option.getD, Option.isSome] at HA HB
        have HFx := Lib.hid (fun wx hx => FTextI_any n1 n2 wx hx)
        clear h1 h2 hot hov HV HNo
        go_enter Tryd.func20, Tryd.ntmps20
        go_upto_region 1 with (fail)
        generalize w.alloc (.cells #[.int .i64 0, .int .i64 0] 25) = w1 at *
        go_wp2_with fail
        refine (HC.out _).mono ?_; rintro e w2 ⟨rfl, q, rfl⟩
        have HR2 := Lib.hid (HR.out.drewN q)
        clear HR
        generalize w1.drewN q = wa at *
        go_wp2_with fail
        refine (HA.out _ (HTb.out _ HR2.out.bel)).mono ?_; rintro e wb ⟨rfl, hb⟩
        have HR3 := Lib.hid (HR2.out.below hb)
        clear hb HR2
        go_wp2_with fail
        refine (HB.out _ (HTb.out _ HR3.out.bel)).mono ?_; rintro e wc ⟨rfl, hb⟩
        have HR4 := Lib.hid (HR3.out.below hb)
        clear hb HR3
        go_upto_region 7 with (fail)
        have HT := Lib.hid (FrB.new (Below.refl wc.heap.size wc) (.int .i64 n1) (.int .i64 n2))
        have HRa := Lib.hid (HR4.out.alloc (.cells #[.int .i64 n1, .int .i64 n2] 25))
        have ht3 : w.heap.size < wc.heap.size := blk_ltF HR4.out.res
        generalize wc.alloc (.cells #[.int .i64 n1, .int .i64 n2] 25) = wd at *
        generalize hg : wc.heap.size = t at *
        have Hg := Lib.hid hg
        clear hg
        obtain ⟨t0, t1, t2, t3⟩ := blk2 HT.out.res
        go_wp2_with fail
        refine (HFx.out _ (HTb.out _ HRa.out.bel)).mono ?_; rintro e we ⟨rfl, hb⟩
        have HRe := Lib.hid (HRa.out.below hb)
        have HTe := Lib.hid (HT.out.below hb)
        clear hb t0 t1 t2 t3
        have hq := ba_beq (x := ftxQ n1 n2) (y := s)
        generalize ftxQ n1 n2 = T at *
        cases ho : (decide (1 < n2) && okQ n1 n2) with
        | false =>
          have hne : (T.toList == s.toList) = false := by rw [hq]; exact decide_eq_false (fun e => by rw [HOt.out.1 e] at ho; cases ho)
          have Hr := Lib.hid (show rdFr s = none by rw [HOv.out, ho]; rfl)
          clear hq ho
          have HF := Lib.hid (HRe.out.put (.int .i64 0) (.int .i64 0))
          obtain ⟨k0, k1, _, _⟩ := blk2 HF.out.res
          obtain ⟨r0, r1, r2, r3⟩ := blk2 HRe.out.res
          go_wp2_with fail
          exact bodyPost_ret (v := .tuple #[aggQ 0 0, .bool false]) (by simp [results, Tryd.results20, go_sem, k0, k1]) rfl ⟨by rw [Hr.out]; rfl, HF.out.bel⟩
        | true =>
          have hne : (T.toList == s.toList) = true := by rw [hq]; exact decide_eq_true (HOt.out.2 ho)
          have Hr := Lib.hid (show rdFr s = some (n1, n2) by rw [HOv.out, ho]; rfl)
          obtain ⟨t0, t1, t2, t3⟩ := blk2 HTe.out.res
          clear hq ho
          have HF := Lib.hid (HRe.out.put (.int .i64 n1) (.int .i64 n2))
          obtain ⟨k0, k1, _, _⟩ := blk2 HF.out.res
          obtain ⟨r0, r1, r2, r3⟩ := blk2 HRe.out.res
          go_wp2_with fail
          exact bodyPost_ret (v := .tuple #[aggQ n1 n2, .bool true]) (by simp [results, Tryd.results20, go_sem, k0, k1]) rfl ⟨by rw [Hr.out]; rfl, HF.out.bel⟩
  · have hf2 : s.size ≤ fnd 47 s := by omega
    have hd : decide (fnd 47 s < s.size) = false := decide_eq_false hf
    rw [hd] at HC
    have hx : s.extract 0 (fnd 47 s) = s := by rw [show fnd 47 s = s.size by omega]; exact ByteArray.extract_zero_size
    rw [hx] at HC
    have HA := Lib.hid (fun wx hz => ReadDecimal_any s wx hs hz)
    have HV := Lib.hid (rdFr_one hf2)
    have HOn := Lib.hid (fun n h => one_test (s := s) (n := n) h)
    generalize s.extract (fnd 47 s + 1) s.size = y at *
    clear hd hf hfl hx hf2
    unfold RetN1 at HA
    cases h1 : readN s with
    | none =>
      have Hr := Lib.hid (show rdFr s = none by rw [HV.out, h1])
      rw [h1] at HA
      clear h1
      go_enter Tryd.func20, Tryd.ntmps20
      go_upto_region 1 with (fail)
      generalize w.alloc (.cells #[.int .i64 0, .int .i64 0] 25) = w1 at *
      go_wp2_with fail
      refine (HC.out _).mono ?_; rintro e w2 ⟨rfl, q, rfl⟩
      have HR2 := Lib.hid (HR.out.drewN q)
      clear HR
      generalize w1.drewN q = wa at *
      go_wp2_with fail
      refine (HA.out _ (HTb.out _ HR2.out.bel)).mono ?_; rintro e wc ⟨rfl, hb⟩
      have HR4 := Lib.hid (HR2.out.below hb)
      clear hb HR2
      go_upto_region 7 with (fail)
      have HT := Lib.hid (FrB.new (Below.refl wc.heap.size wc) (.int .i64 0) (.int .i64 1))
      have HRa := Lib.hid (HR4.out.alloc (.cells #[.int .i64 0, .int .i64 1] 25))
      have ht3 : w.heap.size < wc.heap.size := blk_ltF HR4.out.res
      generalize wc.alloc (.cells #[.int .i64 0, .int .i64 1] 25) = wd at *
      generalize hg : wc.heap.size = t at *
      have Hg := Lib.hid hg
      clear hg
      obtain ⟨t0, t1, t2, t3⟩ := blk2 HT.out.res
      have HF := Lib.hid (HRa.out.put (.int .i64 0) (.int .i64 0))
      obtain ⟨k0, k1, _, _⟩ := blk2 HF.out.res
      obtain ⟨r0, r1, r2, r3⟩ := blk2 HRa.out.res
      go_wp2_with fail
      exact bodyPost_ret (v := .tuple #[aggQ 0 0, .bool false]) (by simp [results, Tryd.results20, go_sem, k0, k1]) rfl ⟨by rw [Hr.out]; rfl, HF.out.bel⟩
    | some n1 =>
      have HOt := Lib.hid (HOn.out n1 h1)
      have HOv := Lib.hid (show rdFr s = if okQ n1 1 then some (n1, 1) else none by rw [HV.out, h1])
      rw [h1] at HA
      dsimp only [Option.getD, Option.isSome] at HA
      have HFx := Lib.hid (fun wx hx => FTextI_any n1 1 wx hx)
      clear h1 HV HOn
      go_enter Tryd.func20, Tryd.ntmps20
      go_upto_region 1 with (fail)
      generalize w.alloc (.cells #[.int .i64 0, .int .i64 0] 25) = w1 at *
      go_wp2_with fail
      refine (HC.out _).mono ?_; rintro e w2 ⟨rfl, q, rfl⟩
      have HR2 := Lib.hid (HR.out.drewN q)
      clear HR
      generalize w1.drewN q = wa at *
      go_wp2_with fail
      refine (HA.out _ (HTb.out _ HR2.out.bel)).mono ?_; rintro e wc ⟨rfl, hb⟩
      have HR4 := Lib.hid (HR2.out.below hb)
      clear hb HR2
      go_upto_region 7 with (fail)
      have HT := Lib.hid (FrB.new (Below.refl wc.heap.size wc) (.int .i64 n1) (.int .i64 1))
      have HRa := Lib.hid (HR4.out.alloc (.cells #[.int .i64 n1, .int .i64 1] 25))
      have ht3 : w.heap.size < wc.heap.size := blk_ltF HR4.out.res
      generalize wc.alloc (.cells #[.int .i64 n1, .int .i64 1] 25) = wd at *
      generalize hg : wc.heap.size = t at *
      have Hg := Lib.hid hg
      clear hg
      obtain ⟨t0, t1, t2, t3⟩ := blk2 HT.out.res
      go_wp2_with fail
      refine (HFx.out _ (HTb.out _ HRa.out.bel)).mono ?_; rintro e we ⟨rfl, hb⟩
      have HRe := Lib.hid (HRa.out.below hb)
      have HTe := Lib.hid (HT.out.below hb)
      clear hb t0 t1 t2 t3
      have hq := ba_beq (x := ftxQ n1 1) (y := s)
      generalize ftxQ n1 1 = T at *
      cases ho : okQ n1 1 with
      | false =>
        have hne : (T.toList == s.toList) = false := by rw [hq]; exact decide_eq_false (fun e => by rw [HOt.out.1 e] at ho; cases ho)
        have Hr := Lib.hid (show rdFr s = none by rw [HOv.out, ho]; rfl)
        clear hq ho
        have HF := Lib.hid (HRe.out.put (.int .i64 0) (.int .i64 0))
        obtain ⟨k0, k1, _, _⟩ := blk2 HF.out.res
        obtain ⟨r0, r1, r2, r3⟩ := blk2 HRe.out.res
        go_wp2_with fail
        exact bodyPost_ret (v := .tuple #[aggQ 0 0, .bool false]) (by simp [results, Tryd.results20, go_sem, k0, k1]) rfl ⟨by rw [Hr.out]; rfl, HF.out.bel⟩
      | true =>
        have hne : (T.toList == s.toList) = true := by rw [hq]; exact decide_eq_true (HOt.out.2 ho)
        have Hr := Lib.hid (show rdFr s = some (n1, 1) by rw [HOv.out, ho]; rfl)
        obtain ⟨t0, t1, t2, t3⟩ := blk2 HTe.out.res
        clear hq ho
        have HF := Lib.hid (HRe.out.put (.int .i64 n1) (.int .i64 1))
        obtain ⟨k0, k1, _, _⟩ := blk2 HF.out.res
        obtain ⟨r0, r1, r2, r3⟩ := blk2 HRe.out.res
        go_wp2_with fail
        exact bodyPost_ret (v := .tuple #[aggQ n1 1, .bool true]) (by simp [results, Tryd.results20, go_sem, k0, k1]) rfl ⟨by rw [Hr.out]; rfl, HF.out.bel⟩
end Go.Proofs.YtmeenihnhfhbkaaDoor
/- Fractions, part 7: ReadFraction of the reference. -/
namespace Go.Proofs.YtmeenihnhfhbkaaDoor
open Go.RowKit Go.Joins

theorem rdFr_1 {s x : ByteArray} (h : splitB 47 s = [x]) : rdFr s = match readN x with | some n => (if okQ n 1 then some (n, 1) else none) | none => none := by unfold rdFr; rw [h]; rfl
theorem rdFr_2 {s x y : ByteArray} (h : splitB 47 s = [x, y]) : rdFr s = match readN x, readN y with | some n, some d => (if decide (1 < d) && okQ n d then some (n, d) else none) | _, _ => none := by unfold rdFr; rw [h]; rfl
theorem rdFr_3 {s x y z : ByteArray} {l : List ByteArray} (h : splitB 47 s = x :: y :: z :: l) : rdFr s = none := by unfold rdFr; rw [h]
set_option maxRecDepth 100000 in
set_option maxHeartbeats 12800000 in
theorem ReadFS_any (s : ByteArray) (w : World) (hs : s.size ≤ 1073741824) : Calls Tryd.prog 22 #[.string s] w (RetRF s w) := by
  have HR := Lib.hid (show FrB w (w.alloc (.cells #[.int .i64 0, .int .i64 0] 25)) w.heap.size (.int .i64 0) (.int .i64 0) from FrB.new (Below.refl _ _) _ _)
  have HS := Lib.hid (fun wx => l01Split_any s 47 wx hs)
  have hmem := splitB_mem 47 s.size s (Nat.le_refl _)
  have hne := splitB_ne 47 s
  unfold RetPs at HS
  have h47 : (((47 : UInt8).toNat : Nat) : Int) = 47 := rfl
  rw [h47] at HS
  clear h47
  cases hL : splitB 47 s with
  | nil => exact absurd hL hne
  | cons x l =>
    have hx : x.size ≤ 1073741824 := Nat.le_trans (hmem x (by rw [hL]; simp)) hs
    have HN0 := Lib.hid (fun wx => l01Number_any x wx hx)
    unfold RetN1 at HN0
    cases l with
    | nil =>
      have HV0 := Lib.hid (rdFr_1 hL)
      rw [hL] at HS
      clear hL hmem hne
      cases h1 : readN x with
      | none =>
        have Hr := Lib.hid (show rdFr s = none by rw [HV0.out, h1])
        rw [h1] at HN0
        dsimp only [Option.getD, Option.isSome] at HN0
        clear h1
        go_enter Tryd.func22, Tryd.ntmps22
        go_upto_region 1 with (fail)
        generalize w.alloc (.cells #[.int .i64 0, .int .i64 0] 25) = w1 at *
        go_wp2_with fail
        refine (HS.out _).mono ?_; rintro e w2 ⟨v2, rfl, ho, hb⟩
        have HR2 := Lib.hid (HR.out.below hb)
        clear hb HR
        obtain ⟨g, c, rfl, _, _, hlt, hc⟩ := own_strs ho (by simp)
        have X0 := Lib.hid (fun (w' : World) (hb : Below w2.heap.size w2 w') => show w'.cell? ⟨g, 0, none⟩ = some (.string x) from (hb.cell (p := ⟨g, 0, none⟩) hlt).trans (hc 0 (by simp)))
        have HB2 := Lib.hid (Below.refl w2.heap.size w2)
        clear ho hc
        have x0 := X0.out _ HB2.out
        go_wp2_with fail
        refine (HN0.out _).mono ?_; rintro e wc ⟨rfl, hb⟩
        have HR4 := Lib.hid (HR2.out.below hb)
        have HB4 := Lib.hid (HB2.out.trans (hb.mono HB2.out.size))
        clear hb HR2 x0
        go_upto_region 4 with (fail)
        have HT := Lib.hid (FrB.new (Below.refl wc.heap.size wc) (.int .i64 0) (.int .i64 1))
        have HRa := Lib.hid (HR4.out.alloc (.cells #[.int .i64 0, .int .i64 1] 25))
        have HBa := Lib.hid (HB4.out.alloc HB4.out.size (.cells #[.int .i64 0, .int .i64 1] 25))
        have ht3 : w.heap.size < wc.heap.size := blk_ltF HR4.out.res
        generalize wc.alloc (.cells #[.int .i64 0, .int .i64 1] 25) = wd at *
        generalize hg : wc.heap.size = t at *
        have Hg := Lib.hid hg
        clear hg
        have HF := Lib.hid (HRa.out.put (.int .i64 0) (.int .i64 0))
        obtain ⟨k0, k1, _, _⟩ := blk2 HF.out.res
        obtain ⟨r0, r1, r2, r3⟩ := blk2 HRa.out.res
        go_wp2_with fail
        exact bodyPost_ret (v := .tuple #[aggQ 0 0, .bool false]) (by simp [results, Tryd.results22, go_sem, k0, k1]) rfl ⟨by rw [Hr.out]; rfl, HF.out.bel⟩
      | some n =>
        have HV := Lib.hid (show rdFr s = if okQ n 1 then some (n, 1) else none by rw [HV0.out, h1])
        rw [h1] at HN0
        dsimp only [Option.getD, Option.isSome] at HN0
        have HO := Lib.hid (fun wx => l19Ok_any n 1 wx)
        clear h1 HV0
        go_enter Tryd.func22, Tryd.ntmps22
        go_upto_region 1 with (fail)
        generalize w.alloc (.cells #[.int .i64 0, .int .i64 0] 25) = w1 at *
        go_wp2_with fail
        refine (HS.out _).mono ?_; rintro e w2 ⟨v2, rfl, ho, hb⟩
        have HR2 := Lib.hid (HR.out.below hb)
        clear hb HR
        obtain ⟨g, c, rfl, _, _, hlt, hc⟩ := own_strs ho (by simp)
        have X0 := Lib.hid (fun (w' : World) (hb : Below w2.heap.size w2 w') => show w'.cell? ⟨g, 0, none⟩ = some (.string x) from (hb.cell (p := ⟨g, 0, none⟩) hlt).trans (hc 0 (by simp)))
        have HB2 := Lib.hid (Below.refl w2.heap.size w2)
        clear ho hc
        have x0 := X0.out _ HB2.out
        go_wp2_with fail
        refine (HN0.out _).mono ?_; rintro e wc ⟨rfl, hb⟩
        have HR4 := Lib.hid (HR2.out.below hb)
        have HB4 := Lib.hid (HB2.out.trans (hb.mono HB2.out.size))
        clear hb HR2 x0
        go_upto_region 4 with (fail)
        have HT := Lib.hid (FrB.new (Below.refl wc.heap.size wc) (.int .i64 n) (.int .i64 1))
        have HRa := Lib.hid (HR4.out.alloc (.cells #[.int .i64 n, .int .i64 1] 25))
        have HBa := Lib.hid (HB4.out.alloc HB4.out.size (.cells #[.int .i64 n, .int .i64 1] 25))
        have ht3 : w.heap.size < wc.heap.size := blk_ltF HR4.out.res
        generalize wc.alloc (.cells #[.int .i64 n, .int .i64 1] 25) = wd at *
        generalize hg : wc.heap.size = t at *
        have Hg := Lib.hid hg
        clear hg
        obtain ⟨t0, t1, t2, t3⟩ := blk2 HT.out.res
        go_wp2_with fail
        refine (HO.out _).mono ?_; rintro e we ⟨rfl, hb⟩
        have HRe := Lib.hid (HRa.out.below hb)
        have HTe := Lib.hid (HT.out.below hb)
        clear hb t0 t1 t2 t3
        cases ho : okQ n 1 with
        | false =>
          have Hr := Lib.hid (show rdFr s = none by rw [HV.out, ho]; rfl)
          clear ho
          have HF := Lib.hid (HRe.out.put (.int .i64 0) (.int .i64 0))
          obtain ⟨k0, k1, _, _⟩ := blk2 HF.out.res
          obtain ⟨r0, r1, r2, r3⟩ := blk2 HRe.out.res
          go_wp2_with fail
          exact bodyPost_ret (v := .tuple #[aggQ 0 0, .bool false]) (by simp [results, Tryd.results22, go_sem, k0, k1]) rfl ⟨by rw [Hr.out]; rfl, HF.out.bel⟩
        | true =>
          have Hr := Lib.hid (show rdFr s = some (n, 1) by rw [HV.out, ho]; rfl)
          obtain ⟨t0, t1, t2, t3⟩ := blk2 HTe.out.res
          clear ho
          have HF := Lib.hid (HRe.out.put (.int .i64 n) (.int .i64 1))
          obtain ⟨k0, k1, _, _⟩ := blk2 HF.out.res
          obtain ⟨r0, r1, r2, r3⟩ := blk2 HRe.out.res
          go_wp2_with fail
          exact bodyPost_ret (v := .tuple #[aggQ n 1, .bool true]) (by simp [results, Tryd.results22, go_sem, k0, k1]) rfl ⟨by rw [Hr.out]; rfl, HF.out.bel⟩
    | cons y l =>
      have hy : y.size ≤ 1073741824 := Nat.le_trans (hmem y (by rw [hL]; simp)) hs
      have HN1 := Lib.hid (fun wx => l01Number_any y wx hy)
      unfold RetN1 at HN1
      cases l with
      | nil =>
        have HV0 := Lib.hid (rdFr_2 hL)
        rw [hL] at HS
        clear hL hmem hne
        cases h1 : readN x with
        | none =>
          have Hr := Lib.hid (show rdFr s = none by rw [HV0.out, h1])
          rw [h1] at HN0
          obtain ⟨d, hd⟩ : ∃ d, (readN y).getD 0 = d := ⟨_, rfl⟩
          obtain ⟨b, hb9⟩ : ∃ b, (readN y).isSome = b := ⟨_, rfl⟩
          rw [hd, hb9] at HN1
          dsimp only [Option.getD, Option.isSome] at HN0
          clear h1 hd hb9
          cases b with
          | false =>
            go_enter Tryd.func22, Tryd.ntmps22
            go_upto_region 1 with (fail)
            generalize w.alloc (.cells #[.int .i64 0, .int .i64 0] 25) = w1 at *
            go_wp2_with fail
            refine (HS.out _).mono ?_; rintro e w2 ⟨v2, rfl, ho, hb⟩
            have HR2 := Lib.hid (HR.out.below hb)
            clear hb HR
            obtain ⟨g, c, rfl, _, _, hlt, hc⟩ := own_strs ho (by simp)
            have X0 := Lib.hid (fun (w' : World) (hb : Below w2.heap.size w2 w') => show w'.cell? ⟨g, 0, none⟩ = some (.string x) from (hb.cell (p := ⟨g, 0, none⟩) hlt).trans (hc 0 (by simp)))
            have X1 := Lib.hid (fun (w' : World) (hb : Below w2.heap.size w2 w') => show w'.cell? ⟨g, 1, none⟩ = some (.string y) from (hb.cell (p := ⟨g, 1, none⟩) hlt).trans (hc 1 (by simp)))
            have HB2 := Lib.hid (Below.refl w2.heap.size w2)
            clear ho hc
            have x0 := X0.out _ HB2.out
            go_wp2_with fail
            refine (HN0.out _).mono ?_; rintro e wc ⟨rfl, hb⟩
            have HR4 := Lib.hid (HR2.out.below hb)
            have HB4 := Lib.hid (HB2.out.trans (hb.mono HB2.out.size))
            clear hb HR2 x0
            go_upto_region 4 with (fail)
            have HT := Lib.hid (FrB.new (Below.refl wc.heap.size wc) (.int .i64 0) (.int .i64 1))
            have HRa := Lib.hid (HR4.out.alloc (.cells #[.int .i64 0, .int .i64 1] 25))
            have HBa := Lib.hid (HB4.out.alloc HB4.out.size (.cells #[.int .i64 0, .int .i64 1] 25))
            have ht3 : w.heap.size < wc.heap.size := blk_ltF HR4.out.res
            generalize wc.alloc (.cells #[.int .i64 0, .int .i64 1] 25) = wd at *
            generalize hg : wc.heap.size = t at *
            have Hg := Lib.hid hg
            clear hg
            have x1 := X1.out _ HBa.out
            go_wp2_with fail
            refine (HN1.out _).mono ?_; rintro e wf ⟨rfl, hb⟩
            have HRf := Lib.hid (HRa.out.below hb)
            have HTf := Lib.hid (HT.out.below hb)
            clear hb x1 HRa HT
            obtain ⟨t0, t1, t2, t3⟩ := blk2 HTf.out.res
            go_upto_region 8 with (fail)
            have HTs := Lib.hid (HTf.out.set1 (.int .i64 d))
            have HRs := Lib.hid (HRf.out.othr1 (r2 := t) (by omega) (.int .i64 d) (by omega))
            generalize wf.setCell ⟨t, 1, none⟩ (.int .i64 d) = wg at *
            clear t0 t1 t2 t3 HTf HRf
            have HF := Lib.hid (HRs.out.put (.int .i64 0) (.int .i64 0))
            obtain ⟨k0, k1, _, _⟩ := blk2 HF.out.res
            obtain ⟨r0, r1, r2, r3⟩ := blk2 HRs.out.res
            go_wp2_with fail
            exact bodyPost_ret (v := .tuple #[aggQ 0 0, .bool false]) (by simp [results, Tryd.results22, go_sem, k0, k1]) rfl ⟨by rw [Hr.out]; rfl, HF.out.bel⟩
          | true =>
            by_cases hd1 : 1 < d
            · skip
              go_enter Tryd.func22, Tryd.ntmps22
              go_upto_region 1 with (fail)
              generalize w.alloc (.cells #[.int .i64 0, .int .i64 0] 25) = w1 at *
              go_wp2_with fail
              refine (HS.out _).mono ?_; rintro e w2 ⟨v2, rfl, ho, hb⟩
              have HR2 := Lib.hid (HR.out.below hb)
              clear hb HR
              obtain ⟨g, c, rfl, _, _, hlt, hc⟩ := own_strs ho (by simp)
              have X0 := Lib.hid (fun (w' : World) (hb : Below w2.heap.size w2 w') => show w'.cell? ⟨g, 0, none⟩ = some (.string x) from (hb.cell (p := ⟨g, 0, none⟩) hlt).trans (hc 0 (by simp)))
              have X1 := Lib.hid (fun (w' : World) (hb : Below w2.heap.size w2 w') => show w'.cell? ⟨g, 1, none⟩ = some (.string y) from (hb.cell (p := ⟨g, 1, none⟩) hlt).trans (hc 1 (by simp)))
              have HB2 := Lib.hid (Below.refl w2.heap.size w2)
              clear ho hc
              have x0 := X0.out _ HB2.out
              go_wp2_with fail
              refine (HN0.out _).mono ?_; rintro e wc ⟨rfl, hb⟩
              have HR4 := Lib.hid (HR2.out.below hb)
              have HB4 := Lib.hid (HB2.out.trans (hb.mono HB2.out.size))
              clear hb HR2 x0
              go_upto_region 4 with (fail)
              have HT := Lib.hid (FrB.new (Below.refl wc.heap.size wc) (.int .i64 0) (.int .i64 1))
              have HRa := Lib.hid (HR4.out.alloc (.cells #[.int .i64 0, .int .i64 1] 25))
              have HBa := Lib.hid (HB4.out.alloc HB4.out.size (.cells #[.int .i64 0, .int .i64 1] 25))
              have ht3 : w.heap.size < wc.heap.size := blk_ltF HR4.out.res
              generalize wc.alloc (.cells #[.int .i64 0, .int .i64 1] 25) = wd at *
              generalize hg : wc.heap.size = t at *
              have Hg := Lib.hid hg
              clear hg
              have x1 := X1.out _ HBa.out
              go_wp2_with fail
              refine (HN1.out _).mono ?_; rintro e wf ⟨rfl, hb⟩
              have HRf := Lib.hid (HRa.out.below hb)
              have HTf := Lib.hid (HT.out.below hb)
              clear hb x1 HRa HT
              obtain ⟨t0, t1, t2, t3⟩ := blk2 HTf.out.res
              go_upto_region 8 with (fail)
              have HTs := Lib.hid (HTf.out.set1 (.int .i64 d))
              have HRs := Lib.hid (HRf.out.othr1 (r2 := t) (by omega) (.int .i64 d) (by omega))
              generalize wf.setCell ⟨t, 1, none⟩ (.int .i64 d) = wg at *
              clear t0 t1 t2 t3 HTf HRf
              have HF := Lib.hid (HRs.out.put (.int .i64 0) (.int .i64 0))
              obtain ⟨k0, k1, _, _⟩ := blk2 HF.out.res
              obtain ⟨r0, r1, r2, r3⟩ := blk2 HRs.out.res
              go_wp2_with fail
              exact bodyPost_ret (v := .tuple #[aggQ 0 0, .bool false]) (by simp [results, Tryd.results22, go_sem, k0, k1]) rfl ⟨by rw [Hr.out]; rfl, HF.out.bel⟩
            · have hd2 : d ≤ 1 := by omega
              go_enter Tryd.func22, Tryd.ntmps22
              go_upto_region 1 with (fail)
              generalize w.alloc (.cells #[.int .i64 0, .int .i64 0] 25) = w1 at *
              go_wp2_with fail
              refine (HS.out _).mono ?_; rintro e w2 ⟨v2, rfl, ho, hb⟩
              have HR2 := Lib.hid (HR.out.below hb)
              clear hb HR
              obtain ⟨g, c, rfl, _, _, hlt, hc⟩ := own_strs ho (by simp)
              have X0 := Lib.hid (fun (w' : World) (hb : Below w2.heap.size w2 w') => show w'.cell? ⟨g, 0, none⟩ = some (.string x) from (hb.cell (p := ⟨g, 0, none⟩) hlt).trans (hc 0 (by simp)))
              have X1 := Lib.hid (fun (w' : World) (hb : Below w2.heap.size w2 w') => show w'.cell? ⟨g, 1, none⟩ = some (.string y) from (hb.cell (p := ⟨g, 1, none⟩) hlt).trans (hc 1 (by simp)))
              have HB2 := Lib.hid (Below.refl w2.heap.size w2)
              clear ho hc
              have x0 := X0.out _ HB2.out
              go_wp2_with fail
              refine (HN0.out _).mono ?_; rintro e wc ⟨rfl, hb⟩
              have HR4 := Lib.hid (HR2.out.below hb)
              have HB4 := Lib.hid (HB2.out.trans (hb.mono HB2.out.size))
              clear hb HR2 x0
              go_upto_region 4 with (fail)
              have HT := Lib.hid (FrB.new (Below.refl wc.heap.size wc) (.int .i64 0) (.int .i64 1))
              have HRa := Lib.hid (HR4.out.alloc (.cells #[.int .i64 0, .int .i64 1] 25))
              have HBa := Lib.hid (HB4.out.alloc HB4.out.size (.cells #[.int .i64 0, .int .i64 1] 25))
              have ht3 : w.heap.size < wc.heap.size := blk_ltF HR4.out.res
              generalize wc.alloc (.cells #[.int .i64 0, .int .i64 1] 25) = wd at *
              generalize hg : wc.heap.size = t at *
              have Hg := Lib.hid hg
              clear hg
              have x1 := X1.out _ HBa.out
              go_wp2_with fail
              refine (HN1.out _).mono ?_; rintro e wf ⟨rfl, hb⟩
              have HRf := Lib.hid (HRa.out.below hb)
              have HTf := Lib.hid (HT.out.below hb)
              clear hb x1 HRa HT
              obtain ⟨t0, t1, t2, t3⟩ := blk2 HTf.out.res
              go_upto_region 8 with (fail)
              have HTs := Lib.hid (HTf.out.set1 (.int .i64 d))
              have HRs := Lib.hid (HRf.out.othr1 (r2 := t) (by omega) (.int .i64 d) (by omega))
              generalize wf.setCell ⟨t, 1, none⟩ (.int .i64 d) = wg at *
              clear t0 t1 t2 t3 HTf HRf
              have HF := Lib.hid (HRs.out.put (.int .i64 0) (.int .i64 0))
              obtain ⟨k0, k1, _, _⟩ := blk2 HF.out.res
              obtain ⟨r0, r1, r2, r3⟩ := blk2 HRs.out.res
              go_wp2_with fail
              exact bodyPost_ret (v := .tuple #[aggQ 0 0, .bool false]) (by simp [results, Tryd.results22, go_sem, k0, k1]) rfl ⟨by rw [Hr.out]; rfl, HF.out.bel⟩
        | some n =>
          cases h2 : readN y with
          | none =>
            have Hr := Lib.hid (show rdFr s = none by rw [HV0.out, h1, h2])
            rw [h1] at HN0
            rw [h2] at HN1
            dsimp only [Option.getD, Option.isSome] at HN0 HN1
            clear h1 h2
            go_enter Tryd.func22, Tryd.ntmps22
            go_upto_region 1 with (fail)
            generalize w.alloc (.cells #[.int .i64 0, .int .i64 0] 25) = w1 at *
            go_wp2_with fail
            refine (HS.out _).mono ?_; rintro e w2 ⟨v2, rfl, ho, hb⟩
            have HR2 := Lib.hid (HR.out.below hb)
            clear hb HR
            obtain ⟨g, c, rfl, _, _, hlt, hc⟩ := own_strs ho (by simp)
            have X0 := Lib.hid (fun (w' : World) (hb : Below w2.heap.size w2 w') => show w'.cell? ⟨g, 0, none⟩ = some (.string x) from (hb.cell (p := ⟨g, 0, none⟩) hlt).trans (hc 0 (by simp)))
            have X1 := Lib.hid (fun (w' : World) (hb : Below w2.heap.size w2 w') => show w'.cell? ⟨g, 1, none⟩ = some (.string y) from (hb.cell (p := ⟨g, 1, none⟩) hlt).trans (hc 1 (by simp)))
            have HB2 := Lib.hid (Below.refl w2.heap.size w2)
            clear ho hc
            have x0 := X0.out _ HB2.out
            go_wp2_with fail
            refine (HN0.out _).mono ?_; rintro e wc ⟨rfl, hb⟩
            have HR4 := Lib.hid (HR2.out.below hb)
            have HB4 := Lib.hid (HB2.out.trans (hb.mono HB2.out.size))
            clear hb HR2 x0
            go_upto_region 4 with (fail)
            have HT := Lib.hid (FrB.new (Below.refl wc.heap.size wc) (.int .i64 n) (.int .i64 1))
            have HRa := Lib.hid (HR4.out.alloc (.cells #[.int .i64 n, .int .i64 1] 25))
            have HBa := Lib.hid (HB4.out.alloc HB4.out.size (.cells #[.int .i64 n, .int .i64 1] 25))
            have ht3 : w.heap.size < wc.heap.size := blk_ltF HR4.out.res
            generalize wc.alloc (.cells #[.int .i64 n, .int .i64 1] 25) = wd at *
            generalize hg : wc.heap.size = t at *
            have Hg := Lib.hid hg
            clear hg
            have x1 := X1.out _ HBa.out
            go_wp2_with fail
            refine (HN1.out _).mono ?_; rintro e wf ⟨rfl, hb⟩
            have HRf := Lib.hid (HRa.out.below hb)
            have HTf := Lib.hid (HT.out.below hb)
            clear hb x1 HRa HT
            obtain ⟨t0, t1, t2, t3⟩ := blk2 HTf.out.res
            go_upto_region 8 with (fail)
            have HTs := Lib.hid (HTf.out.set1 (.int .i64 0))
            have HRs := Lib.hid (HRf.out.othr1 (r2 := t) (by omega) (.int .i64 0) (by omega))
            generalize wf.setCell ⟨t, 1, none⟩ (.int .i64 0) = wg at *
            clear t0 t1 t2 t3 HTf HRf
            have HF := Lib.hid (HRs.out.put (.int .i64 0) (.int .i64 0))
            obtain ⟨k0, k1, _, _⟩ := blk2 HF.out.res
            obtain ⟨r0, r1, r2, r3⟩ := blk2 HRs.out.res
            go_wp2_with fail
            exact bodyPost_ret (v := .tuple #[aggQ 0 0, .bool false]) (by simp [results, Tryd.results22, go_sem, k0, k1]) rfl ⟨by rw [Hr.out]; rfl, HF.out.bel⟩
          | some d =>
            have HVd := Lib.hid (show rdFr s = if decide (1 < d) && okQ n d then some (n, d) else none by rw [HV0.out, h1, h2])
            rw [h1] at HN0
            rw [h2] at HN1
            dsimp only [Option.getD, Option.isSome] at HN0 HN1
            have HO := Lib.hid (fun wx => l19Ok_any n d wx)
            clear h1 h2 HV0
            by_cases hd1 : 1 < d
            · have HV := Lib.hid (show rdFr s = if okQ n d then some (n, d) else none by rw [HVd.out, decide_eq_true hd1, Bool.true_and])
              go_enter Tryd.func22, Tryd.ntmps22
              go_upto_region 1 with (fail)
              generalize w.alloc (.cells #[.int .i64 0, .int .i64 0] 25) = w1 at *
              go_wp2_with fail
              refine (HS.out _).mono ?_; rintro e w2 ⟨v2, rfl, ho, hb⟩
              have HR2 := Lib.hid (HR.out.below hb)
              clear hb HR
              obtain ⟨g, c, rfl, _, _, hlt, hc⟩ := own_strs ho (by simp)
              have X0 := Lib.hid (fun (w' : World) (hb : Below w2.heap.size w2 w') => show w'.cell? ⟨g, 0, none⟩ = some (.string x) from (hb.cell (p := ⟨g, 0, none⟩) hlt).trans (hc 0 (by simp)))
              have X1 := Lib.hid (fun (w' : World) (hb : Below w2.heap.size w2 w') => show w'.cell? ⟨g, 1, none⟩ = some (.string y) from (hb.cell (p := ⟨g, 1, none⟩) hlt).trans (hc 1 (by simp)))
              have HB2 := Lib.hid (Below.refl w2.heap.size w2)
              clear ho hc
              have x0 := X0.out _ HB2.out
              go_wp2_with fail
              refine (HN0.out _).mono ?_; rintro e wc ⟨rfl, hb⟩
              have HR4 := Lib.hid (HR2.out.below hb)
              have HB4 := Lib.hid (HB2.out.trans (hb.mono HB2.out.size))
              clear hb HR2 x0
              go_upto_region 4 with (fail)
              have HT := Lib.hid (FrB.new (Below.refl wc.heap.size wc) (.int .i64 n) (.int .i64 1))
              have HRa := Lib.hid (HR4.out.alloc (.cells #[.int .i64 n, .int .i64 1] 25))
              have HBa := Lib.hid (HB4.out.alloc HB4.out.size (.cells #[.int .i64 n, .int .i64 1] 25))
              have ht3 : w.heap.size < wc.heap.size := blk_ltF HR4.out.res
              generalize wc.alloc (.cells #[.int .i64 n, .int .i64 1] 25) = wd at *
              generalize hg : wc.heap.size = t at *
              have Hg := Lib.hid hg
              clear hg
              have x1 := X1.out _ HBa.out
              go_wp2_with fail
              refine (HN1.out _).mono ?_; rintro e wf ⟨rfl, hb⟩
              have HRf := Lib.hid (HRa.out.below hb)
              have HTf := Lib.hid (HT.out.below hb)
              clear hb x1 HRa HT
              obtain ⟨t0, t1, t2, t3⟩ := blk2 HTf.out.res
              go_upto_region 8 with (fail)
              have HTs := Lib.hid (HTf.out.set1 (.int .i64 d))
              have HRs := Lib.hid (HRf.out.othr1 (r2 := t) (by omega) (.int .i64 d) (by omega))
              generalize wf.setCell ⟨t, 1, none⟩ (.int .i64 d) = wg at *
              clear t0 t1 t2 t3 HTf HRf
              obtain ⟨t0, t1, t2, t3⟩ := blk2 HTs.out.res
              go_wp2_with fail
              refine (HO.out _).mono ?_; rintro e we ⟨rfl, hb⟩
              have HRe := Lib.hid (HRs.out.below hb)
              have HTe := Lib.hid (HTs.out.below hb)
              clear hb t0 t1 t2 t3
              cases ho : okQ n d with
              | false =>
                have Hr := Lib.hid (show rdFr s = none by rw [HV.out, ho]; rfl)
                clear ho
                have HF := Lib.hid (HRe.out.put (.int .i64 0) (.int .i64 0))
                obtain ⟨k0, k1, _, _⟩ := blk2 HF.out.res
                obtain ⟨r0, r1, r2, r3⟩ := blk2 HRe.out.res
                go_wp2_with fail
                exact bodyPost_ret (v := .tuple #[aggQ 0 0, .bool false]) (by simp [results, Tryd.results22, go_sem, k0, k1]) rfl ⟨by rw [Hr.out]; rfl, HF.out.bel⟩
              | true =>
                have Hr := Lib.hid (show rdFr s = some (n, d) by rw [HV.out, ho]; rfl)
                obtain ⟨t0, t1, t2, t3⟩ := blk2 HTe.out.res
                clear ho
                have HF := Lib.hid (HRe.out.put (.int .i64 n) (.int .i64 d))
                obtain ⟨k0, k1, _, _⟩ := blk2 HF.out.res
                obtain ⟨r0, r1, r2, r3⟩ := blk2 HRe.out.res
                go_wp2_with fail
                exact bodyPost_ret (v := .tuple #[aggQ n d, .bool true]) (by simp [results, Tryd.results22, go_sem, k0, k1]) rfl ⟨by rw [Hr.out]; rfl, HF.out.bel⟩
            · have hd2 : d ≤ 1 := by omega
              have Hr := Lib.hid (show rdFr s = none by rw [HVd.out, decide_eq_false hd1, Bool.false_and]; rfl)
              go_enter Tryd.func22, Tryd.ntmps22
              go_upto_region 1 with (fail)
              generalize w.alloc (.cells #[.int .i64 0, .int .i64 0] 25) = w1 at *
              go_wp2_with fail
              refine (HS.out _).mono ?_; rintro e w2 ⟨v2, rfl, ho, hb⟩
              have HR2 := Lib.hid (HR.out.below hb)
              clear hb HR
              obtain ⟨g, c, rfl, _, _, hlt, hc⟩ := own_strs ho (by simp)
              have X0 := Lib.hid (fun (w' : World) (hb : Below w2.heap.size w2 w') => show w'.cell? ⟨g, 0, none⟩ = some (.string x) from (hb.cell (p := ⟨g, 0, none⟩) hlt).trans (hc 0 (by simp)))
              have X1 := Lib.hid (fun (w' : World) (hb : Below w2.heap.size w2 w') => show w'.cell? ⟨g, 1, none⟩ = some (.string y) from (hb.cell (p := ⟨g, 1, none⟩) hlt).trans (hc 1 (by simp)))
              have HB2 := Lib.hid (Below.refl w2.heap.size w2)
              clear ho hc
              have x0 := X0.out _ HB2.out
              go_wp2_with fail
              refine (HN0.out _).mono ?_; rintro e wc ⟨rfl, hb⟩
              have HR4 := Lib.hid (HR2.out.below hb)
              have HB4 := Lib.hid (HB2.out.trans (hb.mono HB2.out.size))
              clear hb HR2 x0
              go_upto_region 4 with (fail)
              have HT := Lib.hid (FrB.new (Below.refl wc.heap.size wc) (.int .i64 n) (.int .i64 1))
              have HRa := Lib.hid (HR4.out.alloc (.cells #[.int .i64 n, .int .i64 1] 25))
              have HBa := Lib.hid (HB4.out.alloc HB4.out.size (.cells #[.int .i64 n, .int .i64 1] 25))
              have ht3 : w.heap.size < wc.heap.size := blk_ltF HR4.out.res
              generalize wc.alloc (.cells #[.int .i64 n, .int .i64 1] 25) = wd at *
              generalize hg : wc.heap.size = t at *
              have Hg := Lib.hid hg
              clear hg
              have x1 := X1.out _ HBa.out
              go_wp2_with fail
              refine (HN1.out _).mono ?_; rintro e wf ⟨rfl, hb⟩
              have HRf := Lib.hid (HRa.out.below hb)
              have HTf := Lib.hid (HT.out.below hb)
              clear hb x1 HRa HT
              obtain ⟨t0, t1, t2, t3⟩ := blk2 HTf.out.res
              go_upto_region 8 with (fail)
              have HTs := Lib.hid (HTf.out.set1 (.int .i64 d))
              have HRs := Lib.hid (HRf.out.othr1 (r2 := t) (by omega) (.int .i64 d) (by omega))
              generalize wf.setCell ⟨t, 1, none⟩ (.int .i64 d) = wg at *
              clear t0 t1 t2 t3 HTf HRf
              have HF := Lib.hid (HRs.out.put (.int .i64 0) (.int .i64 0))
              obtain ⟨k0, k1, _, _⟩ := blk2 HF.out.res
              obtain ⟨r0, r1, r2, r3⟩ := blk2 HRs.out.res
              go_wp2_with fail
              exact bodyPost_ret (v := .tuple #[aggQ 0 0, .bool false]) (by simp [results, Tryd.results22, go_sem, k0, k1]) rfl ⟨by rw [Hr.out]; rfl, HF.out.bel⟩
      | cons z l =>
        have Hr := Lib.hid (rdFr_3 hL)
        rw [hL] at HS
        have hlen : (x :: y :: z :: l).length = l.length + 3 := rfl
        rw [hlen] at HS
        clear hL hmem hne
        have hl1 : ((((l.length : Int) + 3) == 1) = false) := by simp; omega
        have hl2 : ((((l.length : Int) + 3) == 2) = false) := by simp; omega
        have hl3 : (0 : Int) < (l.length : Int) + 3 := by omega
        obtain ⟨n, hn⟩ : ∃ n, (readN x).getD 0 = n := ⟨_, rfl⟩
        obtain ⟨b, hb9⟩ : ∃ b, (readN x).isSome = b := ⟨_, rfl⟩
        rw [hn, hb9] at HN0
        clear hn hb9
        cases b with
        | false =>
          go_enter Tryd.func22, Tryd.ntmps22
          go_upto_region 1 with (fail)
          generalize w.alloc (.cells #[.int .i64 0, .int .i64 0] 25) = w1 at *
          go_wp2_with fail
          refine (HS.out _).mono ?_; rintro e w2 ⟨v2, rfl, ho, hb⟩
          have HR2 := Lib.hid (HR.out.below hb)
          clear hb HR
          obtain ⟨g, c, rfl, _, _, hlt, hc⟩ := own_strs (L := x :: y :: z :: l) ho (by simp)
          have X0 := Lib.hid (fun (w' : World) (hb : Below w2.heap.size w2 w') => show w'.cell? ⟨g, 0, none⟩ = some (.string x) from (hb.cell (p := ⟨g, 0, none⟩) hlt).trans (hc 0 (by simp)))
          have HB2 := Lib.hid (Below.refl w2.heap.size w2)
          clear ho hc
          have x0 := X0.out _ HB2.out
          go_wp2_with fail
          refine (HN0.out _).mono ?_; rintro e wc ⟨rfl, hb⟩
          have HR4 := Lib.hid (HR2.out.below hb)
          have HB4 := Lib.hid (HB2.out.trans (hb.mono HB2.out.size))
          clear hb HR2 x0
          go_upto_region 4 with (fail)
          have HT := Lib.hid (FrB.new (Below.refl wc.heap.size wc) (.int .i64 n) (.int .i64 1))
          have HRa := Lib.hid (HR4.out.alloc (.cells #[.int .i64 n, .int .i64 1] 25))
          have HBa := Lib.hid (HB4.out.alloc HB4.out.size (.cells #[.int .i64 n, .int .i64 1] 25))
          have ht3 : w.heap.size < wc.heap.size := blk_ltF HR4.out.res
          generalize wc.alloc (.cells #[.int .i64 n, .int .i64 1] 25) = wd at *
          generalize hg : wc.heap.size = t at *
          have Hg := Lib.hid hg
          clear hg
          have HF := Lib.hid (HRa.out.put (.int .i64 0) (.int .i64 0))
          obtain ⟨k0, k1, _, _⟩ := blk2 HF.out.res
          obtain ⟨r0, r1, r2, r3⟩ := blk2 HRa.out.res
          go_wp2_with fail
          exact bodyPost_ret (v := .tuple #[aggQ 0 0, .bool false]) (by simp [results, Tryd.results22, go_sem, k0, k1]) rfl ⟨by rw [Hr.out]; rfl, HF.out.bel⟩
        | true =>
          go_enter Tryd.func22, Tryd.ntmps22
          go_upto_region 1 with (fail)
          generalize w.alloc (.cells #[.int .i64 0, .int .i64 0] 25) = w1 at *
          go_wp2_with fail
          refine (HS.out _).mono ?_; rintro e w2 ⟨v2, rfl, ho, hb⟩
          have HR2 := Lib.hid (HR.out.below hb)
          clear hb HR
          obtain ⟨g, c, rfl, _, _, hlt, hc⟩ := own_strs (L := x :: y :: z :: l) ho (by simp)
          have X0 := Lib.hid (fun (w' : World) (hb : Below w2.heap.size w2 w') => show w'.cell? ⟨g, 0, none⟩ = some (.string x) from (hb.cell (p := ⟨g, 0, none⟩) hlt).trans (hc 0 (by simp)))
          have HB2 := Lib.hid (Below.refl w2.heap.size w2)
          clear ho hc
          have x0 := X0.out _ HB2.out
          go_wp2_with fail
          refine (HN0.out _).mono ?_; rintro e wc ⟨rfl, hb⟩
          have HR4 := Lib.hid (HR2.out.below hb)
          have HB4 := Lib.hid (HB2.out.trans (hb.mono HB2.out.size))
          clear hb HR2 x0
          go_upto_region 4 with (fail)
          have HT := Lib.hid (FrB.new (Below.refl wc.heap.size wc) (.int .i64 n) (.int .i64 1))
          have HRa := Lib.hid (HR4.out.alloc (.cells #[.int .i64 n, .int .i64 1] 25))
          have HBa := Lib.hid (HB4.out.alloc HB4.out.size (.cells #[.int .i64 n, .int .i64 1] 25))
          have ht3 : w.heap.size < wc.heap.size := blk_ltF HR4.out.res
          generalize wc.alloc (.cells #[.int .i64 n, .int .i64 1] 25) = wd at *
          generalize hg : wc.heap.size = t at *
          have Hg := Lib.hid hg
          clear hg
          have HF := Lib.hid (HRa.out.put (.int .i64 0) (.int .i64 0))
          obtain ⟨k0, k1, _, _⟩ := blk2 HF.out.res
          obtain ⟨r0, r1, r2, r3⟩ := blk2 HRa.out.res
          go_wp2_with fail
          exact bodyPost_ret (v := .tuple #[aggQ 0 0, .bool false]) (by simp [results, Tryd.results22, go_sem, k0, k1]) rfl ⟨by rw [Hr.out]; rfl, HF.out.bel⟩
end Go.Proofs.YtmeenihnhfhbkaaDoor
/- Fractions, part 4: common denominators and whole tables, both sides. -/
namespace Go.Proofs.YtmeenihnhfhbkaaDoor
open Go.RowKit Go.Joins

set_option maxRecDepth 100000 in
set_option maxHeartbeats 1600000 in
theorem arePlain_any (B : Nat) (v : Value) (n : Nat) (a b : Nat → Int) (w : World) (h : Rd w B v n 2 (tabQ n a b)) (hB : B ≤ w.heap.size) (hn : n ≤ 1000) :
    Calls Tryd.prog 65 #[v] w fun e w' => e = .returned (.bool (okL n a b)) ∧ Below w.heap.size w w' := by
  have H := Lib.hid h
  obtain ⟨A, c, rfl⟩ := rd_sl h
  have hb0 := Lib.hid (Below.refl w.heap.size w)
  clear h
  go_enter Tryd.func65, Tryd.ntmps65
  go_wp2_with fail
  go_loopw [7] (fun i wr => ∃ k : Nat, k ≤ n ∧ i = .int .i64 (k : Int) ∧ okL k a b = true ∧ Below w.heap.size w wr) (fun i _ => n - (intOf i).toNat)
  case atStart => exact ⟨0, Nat.zero_le _, rfl, rfl, hb0.out⟩
  case round =>
    obtain ⟨k, hk, rfl, hall, hbl⟩ := hrel
    have Hall := Lib.hid hall
    have Hbl := Lib.hid hbl
    clear hall hbl
    by_cases hlt : k < n
    · obtain ⟨g, o, hA, hg, q0, q1⟩ := rdQ_at (H.out.below (Hbl.out.mono hB)) k hlt
      subst hA
      have hlt' : (k : Int) < (n : Int) := by omega
      have HB := Lib.hid (fun h => allN_bad (f := fun i => okQ (a i) (b i)) k hlt h)
      have HG := Lib.hid (fun h => allN_step (f := fun i => okQ (a i) (b i)) Hall.out h)
      have HP := Lib.hid (fun wx => isPlain_any (a k) (b k) wx)
      generalize a k = x at *
      generalize b k = y at *
      have Hba := Lib.hid (Hbl.out.alloc Hbl.out.size (.cells #[.int .i64 x, .int .i64 y] 25))
      go_wp2_with fail
      refine (HP.out _).mono ?_; rintro e w2 ⟨rfl, hb2⟩
      have Hb2 := Lib.hid (Hba.out.trans (hb2.mono Hba.out.size))
      clear hb2
      cases ho : okQ x y with
      | false =>
        have Hr := Lib.hid (HB.out ho)
        clear ho
        go_wp2_with fail
        go_ret
        exact ⟨ret_bool Hr.out.symm, Hb2.out⟩
      | true =>
        have Hr := Lib.hid (HG.out ho)
        clear ho
        go_wp2_with fail
        go_roundw
        case rel => exact ⟨k + 1, by omega, by go_num, Hr.out, Hb2.out⟩
        case measure => first | (simp [intOf]; done) | (simp [intOf]; omega)
    · obtain rfl : k = n := by omega
      have hlt' : ¬ ((k : Int) < (k : Int)) := by omega
      go_wp2_with fail
      go_ret
      exact ⟨ret_bool Hall.out.symm, Hbl.out⟩
/-- a number and a code -/
def RetNC (n c : Int) (w : World) (e : Ending) (w' : World) : Prop := e = .returned (.tuple #[.int .i64 n, .int .i64 c]) ∧ Below w.heap.size w w'
theorem RetNC.of {n c n' c' : Int} {w w' : World} (h1 : c = c') (h2 : n = n') (hb : Below w.heap.size w w') : RetNC n c w (.returned (.tuple #[.int .i64 n', .int .i64 c'])) w' := ⟨by rw [h1, h2], hb⟩
theorem quoN {a b : Nat} (_hb : 0 < b) : Int.tdiv (a : Int) (b : Int) = ((a / b : Nat) : Int) ∧ (a : Int) / (b : Int) = ((a / b : Nat) : Int) := ⟨by rw [Int.tdiv_eq_ediv_of_nonneg (by omega)]; exact (Int.natCast_ediv _ _).symm, (Int.natCast_ediv _ _).symm⟩
theorem remN {a b : Nat} (_hb : 0 < b) : Int.tmod (a : Int) (b : Int) = ((a % b : Nat) : Int) ∧ (a : Int) % (b : Int) = ((a % b : Nat) : Int) := ⟨by rw [Int.tmod_eq_emod_of_nonneg (by omega)]; exact (Int.natCast_emod _ _).symm, (Int.natCast_emod _ _).symm⟩
theorem quoM {b : Nat} (hb : 0 < b) : Int.tdiv (1000000000000 : Int) (b : Int) = ((1000000000000 / b : Nat) : Int) ∧ (1000000000000 : Int) / (b : Int) = ((1000000000000 / b : Nat) : Int) := quoN (a := 1000000000000) hb
theorem cdFac {n c k : Nat} {a b : Nat → Int} (hp : okL n a b = true) (hk : k < n) (hc : cdF b k = some c) :
    ∃ d : Nat, b k = (d : Int) ∧ 1 ≤ d ∧ d ≤ 1000000000000 ∧ 1 ≤ c ∧ c ≤ 1000000000000 ∧ 1 ≤ d / Nat.gcd c d ∧ d / Nat.gcd c d ≤ 1000000000000 ∧ 0 < Nat.gcd c d ∧
      (1000000000000 / (d / Nat.gcd c d) < c → cdF b n = none) ∧ (¬ 1000000000000 / (d / Nat.gcd c d) < c → cdF b (k + 1) = some (c * (d / Nat.gcd c d)) ∧ c * (d / Nat.gcd c d) ≤ 1000000000000) := by
  have hd := okL_den hp k hk
  obtain ⟨h1, h2, _⟩ := cdF_all (fun i hi => (okL_den hp i hi).1) k (by omega) c hc
  obtain ⟨m1, _, m3⟩ := cd_more (c := c) (d := (b k).toNat) (by omega)
  have hst := cdF_step hc
  refine ⟨(b k).toNat, by omega, by omega, by omega, h1, h2, m1, by omega, Nat.gcd_pos_of_pos_right _ (by omega), fun h => ?_, fun h => ?_⟩
  · rw [if_pos h] at hst
    exact cdF_none hst n (by omega)
  · rw [if_neg h] at hst
    exact ⟨hst, Nat.mul_le_of_le_div _ _ _ (Nat.le_of_not_lt h)⟩
set_option maxRecDepth 100000 in
set_option maxHeartbeats 3200000 in
theorem CommonI_any (B : Nat) (v : Value) (n : Nat) (a b : Nat → Int) (w : World) (h : Rd w B v n 2 (tabQ n a b)) (hB : B ≤ w.heap.size) (hn : n ≤ 1000) :
    Calls Tryd.prog 16 #[v] w (RetNC (cdV n a b) (cdC n a b) w) := by
  have HP := Lib.hid (arePlain_any B v n a b w h hB hn)
  have H := Lib.hid h
  obtain ⟨A, c, rfl⟩ := rd_sl h
  clear h
  cases hp : okL n a b with
  | false =>
    have Hr := Lib.hid (cd_bad hp)
    rw [hp] at HP
    clear hp
    go_enter Tryd.func16, Tryd.ntmps16
    go_wp2_with fail
    refine (HP.out).mono ?_; rintro e w2 ⟨rfl, hb2⟩
    have Hb2 := Lib.hid hb2
    clear hb2
    have Hz := Lib.hid (RetNC.of (w := w) Hr.out.1 Hr.out.2 Hb2.out)
    go_wp2_with fail
    go_ret2
    exact Hz.out
  | true =>
    rw [hp] at HP
    go_enter Tryd.func16, Tryd.ntmps16
    go_wp2_with fail
    refine (HP.out).mono ?_; rintro e w2 ⟨rfl, hb2⟩
    have Hb2 := Lib.hid hb2
    clear hb2
    go_wp2_with fail
    go_loopw [4, 13] (fun x i wr => ∃ k c : Nat, k ≤ n ∧ i = .int .i64 (k : Int) ∧ x = .int .i64 (c : Int) ∧ cdF b k = some c ∧ Below w.heap.size w wr) (fun _ i _ => n - (intOf i).toNat)
    case atStart => exact ⟨0, 1, Nat.zero_le _, rfl, rfl, rfl, Hb2.out⟩
    case round =>
      obtain ⟨k, c, hk, rfl, rfl, hcF, hbl⟩ := hrel
      have HcF := Lib.hid hcF
      have Hbl := Lib.hid hbl
      clear hcF hbl
      by_cases hlt : k < n
      · obtain ⟨gb, ob, hA, hg, q0, q1⟩ := rdQ_at (H.out.below (Hbl.out.mono hB)) k hlt
        subst hA
        obtain ⟨d, hd, d1, d2, c1, c2, m1, m2, g1, hov, hgo⟩ := cdFac hp hlt HcF.out
        have Hov := Lib.hid hov
        have Hgo := Lib.hid hgo
        rw [hd] at q1
        obtain ⟨e1, e2⟩ := quoN (a := d) g1
        have HG := Lib.hid (fun wx => divisor_any c d wx (by omega) (by omega))
        generalize Nat.gcd c d = g at *
        generalize d / g = m at *
        obtain ⟨e3, e4⟩ := quoM m1
        have hmd := Nat.div_le_self 1000000000000 m
        generalize 1000000000000 / m = y at *
        have hg0 : (g : Int) ≠ 0 := by omega
        have hg1 : (0 : Int) < (g : Int) := by omega
        have hgn : g ≠ 0 := by omega
        have hm0 : (m : Int) ≠ 0 := by omega
        have hm1 : (0 : Int) < (m : Int) := by omega
        have hmn : m ≠ 0 := by omega
        have hwm : IntKind.i64.wrap (m : Int) = (m : Int) := IntWalk.i64_in _ (by omega)
        have hwy : IntKind.i64.wrap (y : Int) = (y : Int) := IntWalk.i64_in _ (by omega)
        have hlt' : (k : Int) < (n : Int) := by omega
        generalize a k = x at *
        have Hba := Lib.hid (Hbl.out.alloc Hbl.out.size (.cells #[.int .i64 x, .int .i64 (d : Int)] 25))
        have HQ := Lib.hid (Q2.new wr (.int .i64 x) (.int .i64 (d : Int)) 25)
        go_upto_region 7 with (fail)
        generalize wr.alloc (.cells #[.int .i64 x, .int .i64 (d : Int)] 25) = wa at *
        generalize hgq : wr.heap.size = gq at *
        have Hgq := Lib.hid hgq
        clear hgq
        obtain ⟨z0, z1⟩ := HQ.out.c
        go_quiet ((go_at_call 68; exact Calls.quiet_of (HG.out _)))
        have Hbz := Lib.hid (below_drewN Hba.out nq)
        generalize wa.drewN nq = wb at *
        clear z0 z1 q0 q1
        by_cases hov2 : y < c
        · have hov' : (y : Int) < (c : Int) := by omega
          have Hr := Lib.hid (cd_full hp (Hov.out hov2))
          have Hz := Lib.hid (RetNC.of (w := w) Hr.out.1 Hr.out.2 Hbz.out)
          go_wp2_with fail
          go_ret2
          exact Hz.out
        · have hov' : (c : Int) ≤ (y : Int) := by omega
          obtain ⟨f1, f2⟩ := Hgo.out hov2
          have HF1 := Lib.hid f1
          have hcm : (c : Int) * (m : Int) = ((c * m : Nat) : Int) := (Int.natCast_mul _ _).symm
          have hwp : IntKind.i64.wrap ((c : Int) * (m : Int)) = ((c * m : Nat) : Int) := by rw [hcm]; exact IntWalk.i64_in _ (by omega)
          clear f1 hcm
          generalize c * m = c3 at *
          go_wp2_with fail
          go_roundw
          case rel => exact ⟨k + 1, c3, by omega, by go_num, rfl, HF1.out, Hbz.out⟩
          case measure => first | (simp [intOf]; done) | (simp [intOf]; omega)
      · obtain rfl : k = n := by omega
        have hlt' : ¬ ((k : Int) < (k : Int)) := by omega
        have Hr := Lib.hid (cd_ok hp HcF.out)
        have Hz := Lib.hid (RetNC.of (w := w) Hr.out.1 Hr.out.2 Hbl.out)
        go_wp2_with fail
        go_ret2
        exact Hz.out
def comV (n : Nat) (b : Nat → Int) : Int := match cdF b n with | some c => (c : Int) | none => 1000000000001
theorem comV_some {n c : Nat} {b : Nat → Int} (h : cdF b n = some c) : comV n b = c := by unfold comV; rw [h]
theorem comV_none {n : Nat} {b : Nat → Int} (h : cdF b n = none) : comV n b = 1000000000001 := by unfold comV; rw [h]
set_option maxRecDepth 100000 in
set_option maxHeartbeats 3200000 in
theorem l19Common_any (B : Nat) (v : Value) (n : Nat) (a b : Nat → Int) (w : World) (h : Rd w B v n 2 (tabQ n a b)) (hB : B ≤ w.heap.size) (hn : n ≤ 1000) (hp : okL n a b = true) :
    Calls Tryd.prog 64 #[v] w fun e w' => e = .returned (.int .i64 (comV n b)) ∧ Below w.heap.size w w' := by
  have H := Lib.hid h
  obtain ⟨A, c, rfl⟩ := rd_sl h
  have hb0 := Lib.hid (Below.refl w.heap.size w)
  clear h
  go_enter Tryd.func64, Tryd.ntmps64
  go_wp2_with fail
  go_loopw [3, 4] (fun x i wr => ∃ k c : Nat, k ≤ n ∧ i = .int .i64 (k : Int) ∧ x = .int .i64 (c : Int) ∧ c ≤ 1000000000000 ∧ cdF b k = some c ∧ Below w.heap.size w wr) (fun _ i _ => n - (intOf i).toNat)
  case atStart => exact ⟨0, 1, Nat.zero_le _, rfl, rfl, by omega, rfl, hb0.out⟩
  case round =>
    obtain ⟨k, c, hk, rfl, rfl, hc12, hcF, hbl⟩ := hrel
    have HcF := Lib.hid hcF
    have Hbl := Lib.hid hbl
    have hc12' : (c : Int) ≤ 1000000000000 := by omega
    clear hcF hbl
    by_cases hlt : k < n
    · obtain ⟨gb, ob, hA, hg, q0, q1⟩ := rdQ_at (H.out.below (Hbl.out.mono hB)) k hlt
      subst hA
      obtain ⟨d, hd, d1, d2, c1, c2, m1, m2, g1, hov, hgo⟩ := cdFac hp hlt HcF.out
      have Hov := Lib.hid hov
      have Hgo := Lib.hid hgo
      rw [hd] at q1
      obtain ⟨e1, e2⟩ := quoN (a := d) g1
      have HG := Lib.hid (fun wx => flipQ (l04Gcd_any c d wx (by omega) (by omega)))
      generalize Nat.gcd c d = g at *
      generalize d / g = m at *
      obtain ⟨e3, e4⟩ := quoM m1
      have hmd := Nat.div_le_self 1000000000000 m
      generalize 1000000000000 / m = y at *
      have hg0 : (g : Int) ≠ 0 := by omega
      have hg1 : (0 : Int) < (g : Int) := by omega
      have hgn : g ≠ 0 := by omega
      have hm0 : (m : Int) ≠ 0 := by omega
      have hm1 : (0 : Int) < (m : Int) := by omega
      have hmn : m ≠ 0 := by omega
      have hwm : IntKind.i64.wrap (m : Int) = (m : Int) := IntWalk.i64_in _ (by omega)
      have hwy : IntKind.i64.wrap (y : Int) = (y : Int) := IntWalk.i64_in _ (by omega)
      have hlt' : (k : Int) < (n : Int) := by omega
      generalize a k = x at *
      obtain ⟨wz, rfl⟩ : ∃ z, z = wr := ⟨_, rfl⟩
      go_upto_region 5 with (fail)
      go_quiet ((go_at_call 93; exact Calls.quiet_of_same (HG.out _)))
      have Hbz := Lib.hid (below_drewN Hbl.out nq)
      generalize wz.drewN nq = wb at *
      clear q0 q1
      by_cases hov2 : y < c
      · have hov' : (y : Int) < (c : Int) := by omega
        have Hr := Lib.hid (comV_none (Hov.out hov2))
        go_wp2_with fail
        go_ret
        exact ⟨ret_int Hr.out.symm, Hbz.out⟩
      · have hov' : (c : Int) ≤ (y : Int) := by omega
        obtain ⟨f1, f2⟩ := Hgo.out hov2
        have HF1 := Lib.hid f1
        have hcm : (c : Int) * (m : Int) = ((c * m : Nat) : Int) := (Int.natCast_mul _ _).symm
        have hwp : IntKind.i64.wrap ((c : Int) * (m : Int)) = ((c * m : Nat) : Int) := by rw [hcm]; exact IntWalk.i64_in _ (by omega)
        clear f1 hcm
        generalize c * m = c3 at *
        go_wp2_with fail
        go_roundw
        case rel => exact ⟨k + 1, c3, by omega, by go_num, rfl, f2, HF1.out, Hbz.out⟩
        case measure => first | (simp [intOf]; done) | (simp [intOf]; omega)
    · obtain rfl : k = n := by omega
      have hlt' : ¬ ((k : Int) < (k : Int)) := by omega
      have Hr := Lib.hid (comV_some HcF.out)
      go_wp2_with fail
      go_ret
      exact ⟨ret_int Hr.out.symm, Hbl.out⟩
set_option maxRecDepth 100000 in
set_option maxHeartbeats 1600000 in
theorem CommonS_any (B : Nat) (v : Value) (n : Nat) (a b : Nat → Int) (w : World) (h : Rd w B v n 2 (tabQ n a b)) (hB : B ≤ w.heap.size) (hn : n ≤ 1000) :
    Calls Tryd.prog 17 #[v] w (RetNC (cdV n a b) (cdC n a b) w) := by
  have HP := Lib.hid (l19List_any B v n a b w h hB hn)
  have H := Lib.hid h
  have Hv := Lib.hid (rd_sl h)
  obtain ⟨A, c, rfl⟩ := rd_sl h
  clear h
  cases hp : okL n a b with
  | false =>
    have Hr := Lib.hid (cd_bad hp)
    rw [hp] at HP
    clear hp
    go_enter Tryd.func17, Tryd.ntmps17
    go_wp2_with fail
    refine (HP.out).mono ?_; rintro e w2 ⟨rfl, hb2⟩
    have Hb2 := Lib.hid hb2
    clear hb2
    have Hz := Lib.hid (RetNC.of (w := w) Hr.out.1 Hr.out.2 Hb2.out)
    go_wp2_with fail
    go_ret2
    exact Hz.out
  | true =>
    rw [hp] at HP
    have HCm := Lib.hid (fun wx hx hz => l19Common_any B (.slice A n c) n a b wx hx hz hn hp)
    have HF := Lib.hid (fun c h => cdF_all (fun i hi => (okL_den hp i hi).1) n (Nat.le_refl _) c h)
    have Hr1 := Lib.hid (fun h => cd_full hp h)
    have Hr2 := Lib.hid (fun c h => cd_ok (c := c) hp h)
    clear hp
    go_enter Tryd.func17, Tryd.ntmps17
    go_wp2_with fail
    refine (HP.out).mono ?_; rintro e w2 ⟨rfl, hb2⟩
    have Hb2 := Lib.hid hb2
    have HC2 := Lib.hid (HCm.out w2 (H.out.below (hb2.mono hB)) (Nat.le_trans hB hb2.size))
    clear hb2 HCm
    cases hcd : cdF b n with
    | none =>
      have Hr := Lib.hid (Hr1.out hcd)
      rw [comV_none hcd] at HC2
      clear hcd
      go_wp2_with fail
      refine (HC2.out).mono ?_; rintro e w3 ⟨rfl, hb3⟩
      have Hb3 := Lib.hid (Hb2.out.trans (hb3.mono Hb2.out.size))
      clear hb3
      have Hz := Lib.hid (RetNC.of (w := w) Hr.out.1 Hr.out.2 Hb3.out)
      go_wp2_with fail
      go_ret2
      exact Hz.out
    | some c9 =>
      have Hr := Lib.hid (Hr2.out c9 hcd)
      obtain ⟨_, hle, _⟩ := HF.out c9 hcd
      rw [comV_some hcd] at HC2
      have hle' : ¬ ((1000000000000 : Int) < (c9 : Int)) := by omega
      clear hcd
      go_wp2_with fail
      refine (HC2.out).mono ?_; rintro e w3 ⟨rfl, hb3⟩
      have Hb3 := Lib.hid (Hb2.out.trans (hb3.mono Hb2.out.size))
      clear hb3
      have Hz := Lib.hid (RetNC.of (w := w) Hr.out.1 Hr.out.2 Hb3.out)
      go_wp2_with fail
      go_ret2
      exact Hz.out
/-- whole numbers and a code -/
def RetWT (n : Nat) (a b : Nat → Int) (den : Int) (w : World) (e : Ending) (w' : World) : Prop :=
  ∃ v, e = .returned (.tuple #[v, .int .i64 (wtC n a b den)]) ∧ w'.ownsRow w.heap.size 2 1 v (wtN n a b den) (tab (wtN n a b den) (wtV a b den.toNat)) ∧ Below w.heap.size w w'
theorem RetWT.bad {n : Nat} {a b : Nat → Int} {den c : Int} {w w' : World} (h : wtC n a b den = c) (hc : c ≠ 0) (hb : Below w.heap.size w w') : RetWT n a b den w (.returned (.tuple #[.slice none 0 0, .int .i64 c])) w' := by
  refine ⟨_, by rw [h], ?_, hb⟩
  rw [wt_bad h hc]
  exact own_nil _ _ _ _
theorem wtFac {n k den : Nat} {a b : Nat → Int} (hp : okL n a b = true) (hk : k < n) (h0 : wtF a b den k = 0) (h1 : 1 ≤ den) (h2 : den ≤ 1000000000000) :
    ∃ d : Nat, b k = (d : Int) ∧ 1 ≤ d ∧ d ≤ 1000000000000 ∧ (a k).natAbs ≤ 1000000000000 ∧ (den % d ≠ 0 → wtF a b den n = 6) ∧
      (den % d = 0 → 1 ≤ den / d ∧ den / d ≤ 1000000000000 ∧ (1000000000000 / (den / d) < (a k).natAbs → wtF a b den n = 5) ∧
        (¬ 1000000000000 / (den / d) < (a k).natAbs → wtF a b den (k + 1) = 0 ∧ wtV a b den k = a k * ((den / d : Nat) : Int) ∧ (a k * ((den / d : Nat) : Int)).natAbs ≤ 1000000000000)) := by
  have hd := okL_den hp k hk
  have ha := (okQ_iff.1 (okL_get hp hk)).1
  refine ⟨(b k).toNat, by omega, by omega, by omega, by omega, fun h => ?_, fun h => ?_⟩
  · exact wtF_stop h0 hk (e := 6) (by unfold wtE; rw [if_neg h]) (by decide)
  · obtain ⟨t, ht⟩ := Nat.dvd_of_mod_eq_zero h
    have e1 : den / (b k).toNat = t := Nat.div_eq_of_eq_mul_right (by omega) ht
    have htp : 0 < t := Nat.pos_of_ne_zero fun e => by rw [e, Nat.mul_zero] at ht; omega
    have hle := Nat.div_le_self den (b k).toNat
    refine ⟨by omega, by omega, fun h3 => ?_, fun h3 => ?_⟩
    · exact wtF_stop h0 hk (e := 5) (by unfold wtE; rw [if_pos h, if_pos h3]) (by decide)
    · have he : wtE a b den k = 0 := by unfold wtE; rw [if_pos h, if_neg h3]
      exact ⟨wtF_go h0 he, rfl, (wtE_zero (by omega) h1 he).2⟩
set_option maxRecDepth 100000 in
set_option maxHeartbeats 6400000 in
theorem WholeI_any (B : Nat) (v : Value) (n : Nat) (a b : Nat → Int) (den : Int) (w : World) (h : Rd w B v n 2 (tabQ n a b)) (hB : B ≤ w.heap.size) (hn : n ≤ 1000) :
    Calls Tryd.prog 13 #[v, .int .i64 den] w (RetWT n a b den w) := by
  have HP := Lib.hid (arePlain_any B v n a b w h hB hn)
  have H := Lib.hid h
  have HX := Lib.hid (fun wx => between_any den 1 1000000000000 wx)
  have Hmade := Lib.hid (fun w1 => World.ownsRow_made (base := w1.heap.size) (e := 2) (size := 1) w1 #[] 0 (Nat.le_refl _) (by simp [maxLen]) rfl)
  obtain ⟨A, c, rfl⟩ := rd_sl h
  clear h
  cases hp : okL n a b with
  | false =>
    have HE := Lib.hid (fun w' hb => RetWT.bad (w := w) (w' := w') (den := den) (wtC_p hp) (by decide) hb)
    rw [hp] at HP
    clear hp
    go_enter Tryd.func13, Tryd.ntmps13
    go_wp2_with fail
    refine (HP.out).mono ?_; rintro e w2 ⟨rfl, hb2⟩
    have Hz := Lib.hid (HE.out _ hb2)
    clear hb2
    go_wp2_with fail
    go_ret2
    exact Hz.out
  | true =>
    rw [hp] at HP
    cases hx : inB den 1 1000000000000 with
    | false =>
      have HE := Lib.hid (fun w' hb => RetWT.bad (w := w) (w' := w') (wtC_d hp hx) (by decide) hb)
      rw [hx] at HX
      clear hp hx
      go_enter Tryd.func13, Tryd.ntmps13
      go_wp2_with fail
      refine (HP.out).mono ?_; rintro e w2 ⟨rfl, hb2⟩
      have Hz := Lib.hid (HE.out _ hb2)
      clear hb2
      go_wp2_with fail
      refine (HX.out _).mono ?_; rintro e w1 ⟨rfl, rfl⟩
      go_wp2_with fail
      go_ret2
      exact Hz.out
    | true =>
      have hx1 := inB_iff.1 hx
      obtain ⟨m, rfl⟩ : ∃ m : Nat, den = (m : Int) := ⟨den.toNat, by omega⟩
      have hm1 : 1 ≤ m := by omega
      have hm2 : m ≤ 1000000000000 := by omega
      have HwC := Lib.hid (wtC_f hp hx)
      have HE := Lib.hid (fun c w' (hc : wtF a b m n = c) (hc0 : c ≠ 0) hb => RetWT.bad (w := w) (w' := w') ((wtC_f hp hx).trans hc) hc0 hb)
      rw [hx] at HX
      clear hx hx1
      go_enter Tryd.func13, Tryd.ntmps13
      go_wp2_with fail
      refine (HP.out).mono ?_; rintro e w2 ⟨rfl, hb2⟩
      have HbN := Lib.hid (hb2.alloc hb2.size (.cells #[] 2))
      have HoN := Lib.hid (ownsRow_le (Hmade.out w2) hb2.size)
      clear hb2
      go_wp2_with fail
      refine (HX.out _).mono ?_; rintro e w1 ⟨rfl, rfl⟩
      go_wp2_with fail
      go_loopw [6, 19] (fun r i wr => ∃ k : Nat, k ≤ n ∧ i = .int .i64 (k : Int) ∧ wtF a b m k = 0 ∧ wr.ownsRow w.heap.size 2 1 r k (tab k (wtV a b m)) ∧ Below w.heap.size w wr) (fun _ i _ => n - (intOf i).toNat)
      case atStart => exact ⟨0, Nat.zero_le _, rfl, rfl, HoN.out, HbN.out⟩
      case round =>
        obtain ⟨k, hk, rfl, hwF, hown, hbl⟩ := hrel
        obtain ⟨A3, c3, rfl⟩ := own_sl hown
        have HwF := Lib.hid hwF
        have Hown := Lib.hid hown
        have Hbl := Lib.hid hbl
        clear hwF hown hbl
        by_cases hlt : k < n
        · obtain ⟨gb, ob, hA, hg, q0, q1⟩ := rdQ_at (H.out.below (Hbl.out.mono hB)) k hlt
          subst hA
          obtain ⟨d, hd, d1, d2, ha, h6, hgo⟩ := wtFac hp hlt HwF.out hm1 hm2
          have Hgo := Lib.hid hgo
          have Hsc := Lib.hid (tab_succ k (wtV a b m))
          rw [hd] at q1
          obtain ⟨e1, e2⟩ := quoN (a := m) d1
          obtain ⟨e3, e4⟩ := remN (a := m) d1
          have hmod := Nat.mod_lt m d1
          have HAb := Lib.hid (fun wx => flipQ (absolute_any (a k) wx (by omega) (by omega)))
          generalize a k = x at *
          have hlt' : (k : Int) < (n : Int) := by omega
          have hd0 : (d : Int) ≠ 0 := by omega
          have hd1 : (0 : Int) < (d : Int) := by omega
          have hdn : d ≠ 0 := by omega
          have hk10 : k < 1000 := by omega
          have hba := (Below.refl wr.heap.size wr).alloc (Nat.le_refl _) (.cells #[.int .i64 x, .int .i64 (d : Int)] 25)
          have HQ := Lib.hid (Q2.new wr (.int .i64 x) (.int .i64 (d : Int)) 25)
          have Hba := Lib.hid (Hbl.out.trans (hba.mono Hbl.out.size))
          have Hoa := Lib.hid (own_below Hown.out hba)
          clear hba
          by_cases hr : m % d = 0
          · obtain ⟨t1, t2, h5, hok⟩ := Hgo.out hr
            have Hok := Lib.hid hok
            rw [hr] at e3 e4
            generalize m / d = t at *
            obtain ⟨e5, e6⟩ := quoM t1
            have hyd := Nat.div_le_self 1000000000000 t
            generalize 1000000000000 / t = y at *
            have ht0 : (t : Int) ≠ 0 := by omega
            have ht1 : (0 : Int) < (t : Int) := by omega
            have htn : t ≠ 0 := by omega
            have hwt : IntKind.i64.wrap (t : Int) = (t : Int) := IntWalk.i64_in _ (by omega)
            have hwy : IntKind.i64.wrap (y : Int) = (y : Int) := IntWalk.i64_in _ (by omega)
            have hw0 : IntKind.i64.wrap (((0 : Nat) : Int)) = 0 := by decide
            have hdz : ((0 : Nat) : Int) = 0 := rfl
            rw [hdz] at e3 e4
            go_upto_region 9 with (fail)
            clear q0 q1
            generalize wr.alloc (.cells #[.int .i64 x, .int .i64 (d : Int)] 25) = wa at *
            have hgl := HQ.out.lt
            generalize hgq : wr.heap.size = gq at *
            have Hgq := Lib.hid hgq
            clear hgq
            obtain ⟨z0, z1⟩ := HQ.out.c
            go_upto_region 12 with (fail)
            go_quiet ((go_at_call 49; exact Calls.quiet_of_same (HAb.out _)))
            have Hbz := Lib.hid (below_drewN Hba.out nq)
            have Hoz := Lib.hid (Hoa.out.drewN nq)
            have HQz := Lib.hid (HQ.out.below (below_drewN (Below.refl _ _) nq))
            clear z0 z1 HQ Hoa Hba
            generalize wa.drewN nq = wb at *
            obtain ⟨z0, z1⟩ := HQz.out.c
            by_cases hov : y < x.natAbs
            · have hov' : (y : Int) < (x.natAbs : Int) := by omega
              have Hz := Lib.hid (HE.out 5 wb (h5 hov) (by decide) Hbz.out)
              go_wp2_with fail
              go_ret2
              exact Hz.out
            · have hov' : (x.natAbs : Int) ≤ (y : Int) := by omega
              obtain ⟨f1, f2, f3⟩ := Hok.out hov
              have HF1 := Lib.hid f1
              rw [f2] at Hsc
              obtain ⟨p, hp9⟩ : ∃ p, x * (t : Int) = p := ⟨_, rfl⟩
              rw [hp9] at f3 Hsc
              have hwp : IntKind.i64.wrap (x * (t : Int)) = p := by rw [hp9]; exact IntWalk.i64_in _ (by omega)
              clear f1 f2 h5 h6 hp9
              have hszz := Hbz.out.size
              go_upto_region 14 with (fail)
              go_region_law ((first | (refine step_apd 36 2 _ 1 8 Tryd.underlying36 infoD rfl (by omega) _ _ (by rfl) (by rfl) w.heap.size _ k _ (by rfl) Hoz.out #[.int .i64 p] 1 1 (by rfl) (by rfl) (by simp [Value.oneCell']) (by simp [maxLen]; omega) (by omega) hszz ?_; intro v8 w8 hown8 hg8; have Hb8 := Lib.hid (below_apd Hbz.out Hoz.out hg8 (Nat.le_refl _) hszz); obtain ⟨A8, c8, rfl⟩ := own_sl hown8; have Hown8 := Lib.hid hown8; clear hown8 hg8)))
              all_goals
                (try go_wp2_with fail)
                go_roundw
                case rel => exact ⟨k + 1, by omega, by go_num, HF1.out, by rw [Hsc.out]; exact Hown8.out, Hb8.out⟩
                case measure => first | (simp [intOf]; done) | (simp [intOf]; omega)
          · have Hz := Lib.hid (HE.out 6 _ (h6 hr) (by decide) Hba.out)
            have hr' : ((m % d : Nat) : Int) ≠ 0 := by omega
            have hrb : (((m % d : Nat) : Int) == 0) = false := by simp; omega
            have hrw : IntKind.i64.wrap ((m % d : Nat) : Int) = ((m % d : Nat) : Int) := IntWalk.i64_in _ (by omega)
            clear h6 hgo Hgo
            generalize m % d = rr at *
            go_wp2_with fail
            go_ret2
            exact Hz.out
        · obtain rfl : k = n := by omega
          have hlt' : ¬ ((k : Int) < (k : Int)) := by omega
          have e9 := HwC.out.trans HwF.out
          have Hz := Lib.hid (show RetWT k a b (m : Int) w (.returned (.tuple #[.slice A3 k c3, .int .i64 0])) wr from ⟨_, by rw [e9], by rw [wt_ok e9, Int.toNat_natCast]; exact Hown.out, Hbl.out⟩)
          clear e9
          go_wp2_with fail
          go_ret2
          exact Hz.out
set_option maxRecDepth 100000 in
set_option maxHeartbeats 6400000 in
theorem WholeS_any (B : Nat) (v : Value) (n : Nat) (a b : Nat → Int) (den : Int) (w : World) (h : Rd w B v n 2 (tabQ n a b)) (hB : B ≤ w.heap.size) (hn : n ≤ 1000) :
    Calls Tryd.prog 14 #[v, .int .i64 den] w (RetWT n a b den w) := by
  have HP := Lib.hid (l19List_any B v n a b w h hB hn)
  have H := Lib.hid h
  have HX := Lib.hid (fun wx => l00In_any den 1 1000000000000 wx)
  have Hmade := Lib.hid (fun w1 => World.ownsRow_made (base := w1.heap.size) (e := 2) (size := 1) w1 #[] 0 (Nat.le_refl _) (by simp [maxLen]) rfl)
  obtain ⟨A, c, rfl⟩ := rd_sl h
  clear h
  cases hp : okL n a b with
  | false =>
    have HE := Lib.hid (fun w' hb => RetWT.bad (w := w) (w' := w') (den := den) (wtC_p hp) (by decide) hb)
    rw [hp] at HP
    clear hp
    go_enter Tryd.func14, Tryd.ntmps14
    go_wp2_with fail
    refine (HP.out).mono ?_; rintro e w2 ⟨rfl, hb2⟩
    have Hz := Lib.hid (HE.out _ hb2)
    clear hb2
    go_wp2_with fail
    go_ret2
    exact Hz.out
  | true =>
    rw [hp] at HP
    cases hx : inB den 1 1000000000000 with
    | false =>
      have HE := Lib.hid (fun w' hb => RetWT.bad (w := w) (w' := w') (wtC_d hp hx) (by decide) hb)
      rw [hx] at HX
      clear hp hx
      go_enter Tryd.func14, Tryd.ntmps14
      go_wp2_with fail
      refine (HP.out).mono ?_; rintro e w2 ⟨rfl, hb2⟩
      have Hz := Lib.hid (HE.out _ hb2)
      clear hb2
      go_wp2_with fail
      refine (HX.out _).mono ?_; rintro e w1 ⟨rfl, rfl⟩
      go_wp2_with fail
      go_ret2
      exact Hz.out
    | true =>
      have hx1 := inB_iff.1 hx
      obtain ⟨m, rfl⟩ : ∃ m : Nat, den = (m : Int) := ⟨den.toNat, by omega⟩
      have hm1 : 1 ≤ m := by omega
      have hm2 : m ≤ 1000000000000 := by omega
      have HwC := Lib.hid (wtC_f hp hx)
      have HE := Lib.hid (fun c w' (hc : wtF a b m n = c) (hc0 : c ≠ 0) hb => RetWT.bad (w := w) (w' := w') ((wtC_f hp hx).trans hc) hc0 hb)
      rw [hx] at HX
      clear hx hx1
      go_enter Tryd.func14, Tryd.ntmps14
      go_wp2_with fail
      refine (HP.out).mono ?_; rintro e w2 ⟨rfl, hb2⟩
      have HbN := Lib.hid (hb2.alloc hb2.size (.cells #[] 2))
      have HoN := Lib.hid (ownsRow_le (Hmade.out w2) hb2.size)
      clear hb2
      go_wp2_with fail
      refine (HX.out _).mono ?_; rintro e w1 ⟨rfl, rfl⟩
      go_wp2_with fail
      go_loopw [6, 7] (fun r i wr => ∃ k : Nat, k ≤ n ∧ i = .int .i64 (k : Int) ∧ wtF a b m k = 0 ∧ wr.ownsRow w.heap.size 2 1 r k (tab k (wtV a b m)) ∧ Below w.heap.size w wr) (fun _ i _ => n - (intOf i).toNat)
      case atStart => exact ⟨0, Nat.zero_le _, rfl, rfl, HoN.out, HbN.out⟩
      case round =>
        obtain ⟨k, hk, rfl, hwF, hown, hbl⟩ := hrel
        obtain ⟨A3, c3, rfl⟩ := own_sl hown
        have HwF := Lib.hid hwF
        have Hown := Lib.hid hown
        have Hbl := Lib.hid hbl
        clear hwF hown hbl
        by_cases hlt : k < n
        · obtain ⟨gb, ob, hA, hg, q0, q1⟩ := rdQ_at (H.out.below (Hbl.out.mono hB)) k hlt
          subst hA
          obtain ⟨d, hd, d1, d2, ha, h6, hgo⟩ := wtFac hp hlt HwF.out hm1 hm2
          have Hgo := Lib.hid hgo
          have Hsc := Lib.hid (tab_succ k (wtV a b m))
          rw [hd] at q1
          obtain ⟨e1, e2⟩ := quoN (a := m) d1
          obtain ⟨e3, e4⟩ := remN (a := m) d1
          have hmod := Nat.mod_lt m d1
          have HAb := Lib.hid (fun wx => flipQ (l03Size_c (a k) wx (by omega) (by omega)))
          generalize a k = x at *
          have hlt' : (k : Int) < (n : Int) := by omega
          have hd0 : (d : Int) ≠ 0 := by omega
          have hd1 : (0 : Int) < (d : Int) := by omega
          have hdn : d ≠ 0 := by omega
          have hk10 : k < 1000 := by omega
          by_cases hr : m % d = 0
          · obtain ⟨t1, t2, h5, hok⟩ := Hgo.out hr
            have Hok := Lib.hid hok
            rw [hr] at e3 e4
            generalize m / d = t at *
            obtain ⟨e5, e6⟩ := quoM t1
            have hyd := Nat.div_le_self 1000000000000 t
            generalize 1000000000000 / t = y at *
            have ht0 : (t : Int) ≠ 0 := by omega
            have ht1 : (0 : Int) < (t : Int) := by omega
            have htn : t ≠ 0 := by omega
            have hwt : IntKind.i64.wrap (t : Int) = (t : Int) := IntWalk.i64_in _ (by omega)
            have hwy : IntKind.i64.wrap (y : Int) = (y : Int) := IntWalk.i64_in _ (by omega)
            have hw0 : IntKind.i64.wrap (((0 : Nat) : Int)) = 0 := by decide
            have hdz : ((0 : Nat) : Int) = 0 := rfl
            rw [hdz] at e3 e4
            obtain ⟨wa, rfl⟩ : ∃ z, z = wr := ⟨_, rfl⟩
            go_upto_region 12 with (fail)
            go_quiet ((go_at_call 52; exact Calls.quiet_of_same (HAb.out _)))
            have Hbz := Lib.hid (below_drewN Hbl.out nq)
            have Hoz := Lib.hid (Hown.out.drewN nq)
            have q0 : (wa.drewN nq).cell? ⟨gb, ob + k * 2, none⟩ = some (.int .i64 x) := q0
            clear q1 Hown Hbl
            generalize wa.drewN nq = wb at *
            by_cases hov : y < x.natAbs
            · have hov' : (y : Int) < (x.natAbs : Int) := by omega
              have Hz := Lib.hid (HE.out 5 wb (h5 hov) (by decide) Hbz.out)
              go_wp2_with fail
              go_ret2
              exact Hz.out
            · have hov' : (x.natAbs : Int) ≤ (y : Int) := by omega
              obtain ⟨f1, f2, f3⟩ := Hok.out hov
              have HF1 := Lib.hid f1
              rw [f2] at Hsc
              obtain ⟨p, hp9⟩ : ∃ p, x * (t : Int) = p := ⟨_, rfl⟩
              rw [hp9] at f3 Hsc
              have hwp : IntKind.i64.wrap (x * (t : Int)) = p := by rw [hp9]; exact IntWalk.i64_in _ (by omega)
              clear f1 f2 h5 h6 hp9
              go_wp2_with (at_builtin; refine wpList_apd 36 2 _ 1 8 Tryd.underlying36 infoD rfl (by omega) _ _ rfl rfl w.heap.size _ k _ rfl Hoz.out #[.int .i64 p] 1 1 rfl rfl (by simp [Value.oneCell']) (by simp [maxLen]; omega) (by omega) Hbz.out.size ?_; intro v8 w8 hown8 hg8; have Hb8 := Lib.hid (below_apd Hbz.out Hoz.out hg8 (Nat.le_refl _) Hbz.out.size); obtain ⟨A8, c8, rfl⟩ := own_sl hown8; have Hown8 := Lib.hid hown8; clear hown8 hg8)
              go_roundw
              case rel => exact ⟨k + 1, by omega, by go_num, HF1.out, by rw [Hsc.out]; exact Hown8.out, Hb8.out⟩
              case measure => first | (simp [intOf]; done) | (simp [intOf]; omega)
          · have Hz := Lib.hid (HE.out 6 wr (h6 hr) (by decide) Hbl.out)
            have hr' : ((m % d : Nat) : Int) ≠ 0 := by omega
            have hrb : (((m % d : Nat) : Int) == 0) = false := by simp; omega
            have hrw : IntKind.i64.wrap ((m % d : Nat) : Int) = ((m % d : Nat) : Int) := IntWalk.i64_in _ (by omega)
            clear h6 hgo Hgo
            generalize m % d = rr at *
            go_wp2_with fail
            go_ret2
            exact Hz.out
        · obtain rfl : k = n := by omega
          have hlt' : ¬ ((k : Int) < (k : Int)) := by omega
          have e9 := HwC.out.trans HwF.out
          have Hz := Lib.hid (show RetWT k a b (m : Int) w (.returned (.tuple #[.slice A3 k c3, .int .i64 0])) wr from ⟨_, by rw [e9], by rw [wt_ok e9, Int.toNat_natCast]; exact Hown.out, Hbl.out⟩)
          clear e9
          go_wp2_with fail
          go_ret2
          exact Hz.out
end Go.Proofs.YtmeenihnhfhbkaaDoor
/- Errors of tables, part 3: rounded tables. -/
namespace Go.Proofs.YtmeenihnhfhbkaaDoor
open Go.RowKit Go.Joins

set_option maxRecDepth 100000 in
set_option maxHeartbeats 1600000 in
theorem f6ints_same (B1 B2 : Nat) (v1 v2 : Value) (n : Nat) (f g : Nat → Int) (w : World) (h : Rd w B1 v1 n 1 (tab n f)) (h' : Rd w B2 v2 n 1 (tab n g)) (hn : n ≤ 1000) (he : ∀ i, i < n → f i = g i) :
    Calls Tryd.prog 23 #[v1, v2] w fun e w' => e = .returned (.bool true) ∧ ∃ k, w' = w.drewN k := by
  have H := Lib.hid h
  have H' := Lib.hid h'
  have HE := Lib.hid he
  obtain ⟨A, c, rfl⟩ := rd_sl h
  obtain ⟨A', c', rfl⟩ := rd_sl h'
  clear h h' he
  go_enter Tryd.func23, Tryd.ntmps23
  go_wp2_with fail
  go_loopw [5] (fun i wr => ∃ (k d : Nat), k ≤ n ∧ i = .int .i64 (k : Int) ∧ wr = w.drewN d) (fun i _ => n - (intOf i).toNat)
  case atStart => exact ⟨0, 0, Nat.zero_le _, rfl, rfl⟩
  case round =>
    obtain ⟨k, d, hk, rfl, rfl⟩ := hrel
    by_cases hlt : k < n
    · obtain ⟨b1, o1, hA, _, hcc⟩ := rdF_all H.out (by omega)
      obtain ⟨b2, o2, hA', _, hcc'⟩ := rdF_all H'.out (by omega)
      subst hA hA'
      have q0 := hcc k hlt
      have q1 := hcc' k hlt
      rw [← HE.out k hlt] at q1
      have hlt' : (k : Int) < (n : Int) := by omega
      generalize f k = x at *
      clear hcc hcc'
      go_wp2_with fail
      go_quiet (fail)
      go_wp2_with fail
      go_roundw
      case rel => exact ⟨k + 1, d + _, by omega, by go_num, rfl⟩
      case measure => first | (simp [intOf]; done) | (simp [intOf]; omega)
    · have hlt' : (n : Int) ≤ (k : Int) := by omega
      go_wp2_with fail
      go_ret
      exact ⟨rfl, d, rfl⟩
theorem f6big_c (B n : Nat) (v : Value) (xs : List Value) (w : World) (h : Rd w B v n 1 xs) : Calls Tryd.prog 5 #[v] w fun e w' => e = .returned (.bool (decide (4096 < n))) ∧ w = w' := by
  obtain ⟨A, c, rfl⟩ := rd_sl h
  clear h
  by_cases hc : 4096 < n
  · have h1 : (4096 : Int) < (n : Int) := by omega
    go_enter Tryd.func5, Tryd.ntmps5
    go_wp2_with fail
    go_ret
    exact ⟨ret_bool (by simp [hc]), rfl⟩
  · have h1 : ¬ (4096 : Int) < (n : Int) := by omega
    go_enter Tryd.func5, Tryd.ntmps5
    go_wp2_with fail
    go_ret
    exact ⟨ret_bool (by simp [hc]), rfl⟩
/-- a table, or none and a code -/
def RetTab (w : World) (code : Int) (n : Nat) (f : Nat → Int) (e : Ending) (w' : World) : Prop :=
  ∃ v m, e = .returned (.tuple #[v, .int .i64 code]) ∧ (code = 0 → m = n) ∧ (code ≠ 0 → m = 0) ∧ w'.ownsRow w.heap.size 2 1 v m (tab m f) ∧ Below w.heap.size w w'
theorem RetTab.no {w w' : World} {code : Int} {n : Nat} {f : Nat → Int} (h : code ≠ 0) (hb : Below w.heap.size w w') : RetTab w code n f (.returned (.tuple #[.slice none 0 0, .int .i64 code])) w' :=
  ⟨_, 0, rfl, fun e => absurd e h, fun _ => rfl, World.ownsRow_nil _ _ _ _, hb⟩
theorem RetTab.yes {w w' : World} {n : Nat} {f : Nat → Int} {v : Value} (h : w'.ownsRow w.heap.size 2 1 v n (tab n f)) (hb : Below w.heap.size w w') : RetTab w 0 n f (.returned (.tuple #[v, .int .i64 0])) w' :=
  ⟨_, n, rfl, fun _ => rfl, fun e => absurd rfl e, h, hb⟩
/-- .. with the code by its equation -/
theorem RetTab.no' {w w' : World} {code c : Int} {n : Nat} {f : Nat → Int} (he : code = c) (h : c ≠ 0) (hb : Below w.heap.size w w') : RetTab w code n f (.returned (.tuple #[.slice none 0 0, .int .i64 c])) w' := by
  subst he; exact RetTab.no h hb
theorem RetTab.yes' {w w' : World} {code : Int} {n : Nat} {f : Nat → Int} {v : Value} (he : code = 0) (h : w'.ownsRow w.heap.size 2 1 v n (tab n f)) (hb : Below w.heap.size w w') : RetTab w code n f (.returned (.tuple #[v, .int .i64 0])) w' := by
  subst he; exact RetTab.yes h hb

/-- the greatest error of the first k values -/
def wmx (f : Nat → Int) (u : Int) : Nat → Int
  | 0 => 0
  | k + 1 => max (wmx f u k) (((f k - ru (f k) u * u).natAbs : Nat) : Int)
theorem wmx_bd {f : Nat → Int} {u : Int} {n : Nat} (hu : 1 ≤ u ∧ u ≤ 1000000) : ∀ k, 0 ≤ wmx f u k ∧ wmx f u k ≤ 1000000 ∧ 2 * wmx f u k ≤ u
  | 0 => by show (0 : Int) ≤ 0 ∧ (0 : Int) ≤ 1000000 ∧ 2 * (0 : Int) ≤ u; omega
  | k + 1 => by
    have h1 := wmx_bd (f := f) (n := n) hu k
    have h2 := ru_bd (v := f k) (u := u) (by omega)
    have e : wmx f u (k + 1) = max (wmx f u k) (((f k - ru (f k) u * u).natAbs : Nat) : Int) := rfl
    omega
end Go.Proofs.YtmeenihnhfhbkaaDoor
