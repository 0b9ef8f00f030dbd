/- Merged texts: Ab6, Ab4, Ab7, Aq1, Ab8, Ab9, Ab10, Ab11. -/
import Derived.Test.YtemcdmjnokpldaaGLawBeads2
import Derived.Test.YtemcdmjnokpldaaGLawBeads1
/- Abaci: l03Ok, ValidAbacus of the reference. -/
namespace Go.Proofs.Ytemcdmjnokpldaa
open Go.RowKit Go.Joins

theorem okAb_len {a : Ab} (h : inB a.rods.length 1 10 = false) : okAb a = false := by unfold okAb; rw [h]; simp
set_option maxRecDepth 100000 in
set_option maxHeartbeats 3200000 in
theorem l03Ok_any (q B : Nat) (u l w : Int) (v : Value) (rs : List (Int × Int)) (W : World) (h : AbAt W q u l w v) (hr : Rd W B v rs.length 2 (rodsC rs)) (hm : rs.length ≤ 1048576) : Calls Try.prog 71 #[.pointer (some ⟨q, 0, none⟩)] W fun e w' => e = .returned (.bool (okAb ⟨u, l, w, rs⟩)) ∧ ∃ n, w' = W.drewN n := by
  have HK := Lib.hid (l03Kind_any q u l w v rs W h)
  have HK0 := Lib.hid (fun h => okAb_kind (a := ⟨u, l, w, rs⟩) h)
  have HK1 := Lib.hid (fun h => okAb_rest (a := ⟨u, l, w, rs⟩) h)
  have HKL := Lib.hid (fun h => okAb_len (a := ⟨u, l, w, rs⟩) h)
  have HI := Lib.hid (fun wx => flipC (l00In_any (rs.length : Int) 1 10 wx))
  have H := Lib.hid h
  have HR := Lib.hid hr
  obtain ⟨_, A, c, rfl, _⟩ := hr
  have Hb0 := Lib.hid (fun (x : Int × Int) wx => flipC (l00In_any x.1 0 u wx))
  have Hb1 := Lib.hid (fun (x : Int × Int) wx => flipC (l00In_any x.2 0 l wx))
  dsimp only at HKL
  generalize okAb ⟨u, l, w, rs⟩ = R at *
  cases hk : kindAb ⟨u, l, w, rs⟩
  · have hRf := HK0.out hk
    subst hRf
    rw [hk] at HK
    clear hk HK0 HK1 HKL HI Hb0 Hb1 h
    go_enter Try.func71, Try.ntmps71
    go_wp2_with fail
    refine HK.out.mono ?_; rintro e w1 ⟨rfl, n1, rfl⟩
    go_wp2_with fail
    go_ret
    exact ⟨rfl, _, rfl⟩
  rw [hk] at HK
  cases hi : inB (rs.length : Int) 1 10
  · have hRf := HKL.out hi
    subst hRf
    rw [hi] at HI
    clear hk hi HK0 HK1 HKL Hb0 Hb1 h
    go_enter Try.func71, Try.ntmps71
    go_wp2_with fail
    refine HK.out.mono ?_; rintro e w1 ⟨rfl, n1, hw1⟩
    obtain ⟨c0, c1, c2, c3⟩ := (show AbAt w1 q u l w (.slice A rs.length c) by rw [hw1]; exact H.out.drewN n1)
    have Hw1 := Lib.hid hw1; clear hw1
    go_wp2_with fail
    refine (HI.out _).mono ?_; rintro e w2 ⟨rfl, rfl⟩
    go_wp2_with fail
    go_ret
    exact ⟨rfl, _, Hw1.out⟩
  have hRf := HK1.out hk
  dsimp only at hRf
  rw [hi, Bool.and_true] at hRf
  rw [hi] at HI
  have HRf := Lib.hid hRf
  clear hk hi HK0 HK1 HKL hRf h
  go_enter Try.func71, Try.ntmps71
  go_wp2_with fail
  refine HK.out.mono ?_; rintro e w1 ⟨rfl, n1, hw1⟩
  obtain ⟨c0, c1, c2, c3⟩ := (show AbAt w1 q u l w (.slice A rs.length c) by rw [hw1]; exact H.out.drewN n1)
  have Hw1 := Lib.hid hw1; clear hw1
  go_wp2_with fail
  refine (HI.out _).mono ?_; rintro e w2 ⟨rfl, rfl⟩
  go_wp2_with fail
  clear c0 c1 c2 c3
  go_loopw [3] (fun i wr => ∃ k m0 : Nat, k ≤ rs.length ∧ i = .int .i64 (k : Int) ∧ (rs.take k).all (rodOk ⟨u, l, w, rs⟩) = true ∧ wr = W.drewN m0) (fun i _ => rs.length - (intOf i).toNat)
  case atStart => exact ⟨0, n1, Nat.zero_le _, rfl, rfl, Hw1.out⟩
  case round =>
    obtain ⟨k, m0, hk, rfl, hal, hwr⟩ := hrel
    have Hal := Lib.hid hal
    have Hw := Lib.hid (fun n => (show wr.drewN n = W.drewN (m0 + n) by rw [hwr, World.drewN_drewN]))
    have Hw0 := Lib.hid hwr
    have HRr : Hid (Rd wr B (.slice A rs.length c) rs.length 2 (rodsC rs)) := Lib.hid (by rw [hwr]; exact HR.out)
    obtain ⟨c0, c1, c2, c3⟩ := (show AbAt wr q u l w (.slice A rs.length c) by rw [hwr]; exact H.out.drewN m0)
    clear hwr hal
    by_cases hlt : k < rs.length
    · have hlt' : (k : Int) < (rs.length : Int) := by omega
      obtain ⟨b, off, hA, _, hcc⟩ := rods_at HRr.out (by omega)
      subst hA
      obtain ⟨r0, r1⟩ := hcc k hlt
      have Hn := Lib.hid (fun h => all_no (p := rodOk ⟨u, l, w, rs⟩) hlt h)
      have Hy := Lib.hid (fun h => all_take (p := rodOk ⟨u, l, w, rs⟩) hlt Hal.out h)
      have Hx := Lib.hid (show rodOk ⟨u, l, w, rs⟩ rs[k] = (inB (rs[k]).1 0 u && inB (rs[k]).2 0 l) from rfl)
      have Hc0 := Lib.hid (Hb0.out rs[k])
      have Hc1 := Lib.hid (Hb1.out rs[k])
      generalize rs[k] = x at *
      obtain ⟨x0, x1⟩ := x
      dsimp only at Hc0 Hc1 Hx r0 r1
      clear hcc
      cases e0 : inB x0 0 u
      · have hno := Hn.out (by rw [Hx.out, e0]; rfl)
        have hRf : R = false := by rw [HRf.out, hno]
        subst hRf
        rw [e0] at Hc0
        clear hno HRf Hn Hy Hx e0
        go_wp2_with fail
        refine wp_region_noPanic ?_
        refine wp_region_L [] (fun w' => w'.cell? ⟨q, 0, none⟩ = some (.int .i64 u) ∧ w'.cell? ⟨q, 1, none⟩ = some (.int .i64 l) ∧ w'.cell? ⟨q, 3, none⟩ = some (.slice (some ⟨b, off, none⟩) rs.length c) ∧ w'.cell? ⟨b, off + k * 2, none⟩ = some (.int .i64 x0) ∧ w'.cell? ⟨b, off + k * 2 + 1, none⟩ = some (.int .i64 x1)) (by kernel_rfl) (⟨c0, c1, c3, r0, r1⟩) (fun hHeld => ?_)
        refine take_F (i := 0) (d := some 25) (v := ?_) (by kernel_rfl) (by kernel_rfl) rfl rfl (by kernel_rfl) (by kernel_rfl) (by kernel_rfl) (fun _ _ _ h => h) (Or.inl ⟨by rfl, ?_⟩) (by assumption) ?_
        rotate_left
        · (intro w hSw; (try dsimp only at hSw); go_simp; (try rw [if_neg (by omega)]); (try (with_reducible rfl)))
        simp only [Act.put, List.setIfInBounds_toArray, List.set_cons_zero, List.set_cons_succ]
        refine take_F (i := 1) (d := some 26) (v := ?_) (by kernel_rfl) (by kernel_rfl) rfl rfl (by kernel_rfl) (by kernel_rfl) (by kernel_rfl) (fun _ _ _ h => h) (Or.inl ⟨by rfl, ?_⟩) (by assumption) ?_
        rotate_left
        · (intro w hSw; (try dsimp only at hSw); go_simp; (try rw [if_neg (by omega)]); (try (with_reducible rfl)))
        simp only [Act.put, List.setIfInBounds_toArray, List.set_cons_zero, List.set_cons_succ]
        refine take_F (i := 2) (d := some 27) (v := ?_) (by kernel_rfl) (by kernel_rfl) rfl rfl (by kernel_rfl) (by kernel_rfl) (by kernel_rfl) (fun _ _ _ h => h) (Or.inl ⟨by rfl, ?_⟩) (by assumption) ?_
        rotate_left
        · (intro w hSw; (try dsimp only at hSw); go_simp; (try rw [if_neg (by omega)]); (try (with_reducible rfl)))
        simp only [Act.put, List.setIfInBounds_toArray, List.set_cons_zero, List.set_cons_succ]
        refine take_L [14,12,7,6,5,3] (i := 3) (d := some 28) (v := ?_) (by kernel_rfl) (by kernel_rfl) (by kernel_rfl) (by kernel_rfl) rfl rfl (by kernel_rfl) (by kernel_rfl) (by kernel_rfl) (fun _ _ _ h => h) (Or.inl ⟨by rfl, ?_⟩) (by assumption) ?_
        rotate_left
        · (intro w hSw; (try dsimp only at hSw); go_simp; (try rw [if_neg (by omega)]); (try (with_reducible rfl)))
        simp only [Act.put, List.setIfInBounds_toArray, List.set_cons_zero, List.set_cons_succ]
        refine take_F (i := 4) (d := some 29) (v := ?_) (by kernel_rfl) (by kernel_rfl) rfl rfl (by kernel_rfl) (by kernel_rfl) (by kernel_rfl) (fun _ _ _ h => h) (Or.inl ⟨by rfl, ?_⟩) (by assumption) ?_
        rotate_left
        · (intro w hSw; (try dsimp only at hSw); go_simp; (try rw [if_neg (by omega)]); (try (with_reducible rfl)))
        simp only [Act.put, List.setIfInBounds_toArray, List.set_cons_zero, List.set_cons_succ]
        refine take_F (i := 5) (d := some 30) (v := ?_) (by kernel_rfl) (by kernel_rfl) rfl rfl (by kernel_rfl) (by kernel_rfl) (by kernel_rfl) (fun _ _ _ h => h) (Or.inl ⟨by rfl, ?_⟩) (by assumption) ?_
        rotate_left
        · (intro w hSw; (try dsimp only at hSw); go_simp; (try rw [if_neg (by omega)]); (try (with_reducible rfl)))
        simp only [Act.put, List.setIfInBounds_toArray, List.set_cons_zero, List.set_cons_succ]
        refine take_F (i := 6) (d := some 31) (v := ?_) (by kernel_rfl) (by kernel_rfl) rfl rfl (by kernel_rfl) (by kernel_rfl) (by kernel_rfl) (fun _ _ _ h => h) (Or.inl ⟨by rfl, ?_⟩) (by assumption) ?_
        rotate_left
        · (intro w hSw; (try dsimp only at hSw); go_simp; (try rw [if_neg (by omega)]); (try (with_reducible rfl)))
        simp only [Act.put, List.setIfInBounds_toArray, List.set_cons_zero, List.set_cons_succ]
        refine take_L [14,12,7] (i := 7) (d := some 32) (v := ?_) (by kernel_rfl) (by kernel_rfl) (by kernel_rfl) (by kernel_rfl) rfl rfl (by kernel_rfl) (by kernel_rfl) (by kernel_rfl) (fun _ _ _ h => h) (Or.inl ⟨by rfl, ?_⟩) (by assumption) ?_
        rotate_left
        · (intro w hSw; (try dsimp only at hSw); go_simp; (try rw [if_neg (by omega)]); (try (with_reducible rfl)))
        simp only [Act.put, List.setIfInBounds_toArray, List.set_cons_zero, List.set_cons_succ]
        refine take_F (i := 8) (d := some 33) (v := ?_) (by kernel_rfl) (by kernel_rfl) rfl rfl (by kernel_rfl) (by kernel_rfl) (by kernel_rfl) (fun _ _ _ h => h) (Or.inl ⟨by rfl, ?_⟩) (by assumption) ?_
        rotate_left
        · (intro w hSw; (try dsimp only at hSw); go_simp; (try rw [if_neg (by omega)]); (try (with_reducible rfl)))
        simp only [Act.put, List.setIfInBounds_toArray, List.set_cons_zero, List.set_cons_succ]
        refine take_F (i := 9) (d := some 34) (v := ?_) (by kernel_rfl) (by kernel_rfl) rfl rfl (by kernel_rfl) (by kernel_rfl) (by kernel_rfl) (fun _ _ _ h => h) (Or.inl ⟨by rfl, ?_⟩) (by assumption) ?_
        rotate_left
        · (intro w hSw; (try dsimp only at hSw); go_simp; (try rw [if_neg (by omega)]); (try (with_reducible rfl)))
        simp only [Act.put, List.setIfInBounds_toArray, List.set_cons_zero, List.set_cons_succ]
        refine take_F (i := 10) (d := some 35) (v := ?_) (by kernel_rfl) (by kernel_rfl) rfl rfl (by kernel_rfl) (by kernel_rfl) (by kernel_rfl) (fun _ _ _ h => h) (Or.inl ⟨by rfl, ?_⟩) (by assumption) ?_
        rotate_left
        · (intro w hSw; (try dsimp only at hSw); go_simp; (try rw [if_neg (by omega)]); (try (with_reducible rfl)))
        simp only [Act.put, List.setIfInBounds_toArray, List.set_cons_zero, List.set_cons_succ]
        refine take_L [14,12,11] (i := 11) (d := some 36) (v := ?_) (by kernel_rfl) (by kernel_rfl) (by kernel_rfl) (by kernel_rfl) rfl rfl (by kernel_rfl) (by kernel_rfl) (by kernel_rfl) (fun _ _ _ h => h) (Or.inl ⟨by rfl, ?_⟩) (by assumption) ?_
        rotate_left
        · (intro w hSw; (try dsimp only at hSw); go_simp; (try rw [if_neg (by omega)]); (try (with_reducible rfl)))
        simp only [Act.put, List.setIfInBounds_toArray, List.set_cons_zero, List.set_cons_succ]
        refine call_L (i := 12) (d := (some 37)) rfl rfl (by kernel_rfl) (fun Kq hKq => ?_)
        go_simp
        go_at_call 72
        refine (Hc0.out _).mono ?_; rintro e w61 ⟨rfl, rfl⟩
        (try go_wp2_with fail)
        refine hKq.out _ _ (⟨c0, c1, c3, r0, r1⟩) (fun hHeld => ?_)
        clear hKq Kq
        (try simp only [Act.put, List.setIfInBounds_toArray, List.set_cons_zero, List.set_cons_succ])
        refine take_F (i := 13) (d := some 38) (v := ?_) (by kernel_rfl) (by kernel_rfl) rfl rfl (by kernel_rfl) (by kernel_rfl) (by kernel_rfl) (fun _ _ _ h => h) (Or.inl ⟨by rfl, ?_⟩) (by assumption) ?_
        rotate_left
        · (intro w hSw; (try dsimp only at hSw); go_simp; (try rw [if_neg (by omega)]); (try (with_reducible rfl)))
        simp only [Act.put, List.setIfInBounds_toArray, List.set_cons_zero, List.set_cons_succ]
        refine take_F (i := 14) (d := some 39) (v := ?_) (by kernel_rfl) (by kernel_rfl) rfl rfl (by kernel_rfl) (by kernel_rfl) (by kernel_rfl) (fun _ _ _ h => h) (Or.inl ⟨by rfl, ?_⟩) (by assumption) ?_
        rotate_left
        · (intro w hSw; (try dsimp only at hSw); go_simp; (try rw [if_neg (by omega)]); (try (with_reducible rfl)))
        simp only [Act.put, List.setIfInBounds_toArray, List.set_cons_zero, List.set_cons_succ]
        refine take_F (i := 15) (d := some 40) (v := undef) (by kernel_rfl) (by kernel_rfl) rfl rfl (by kernel_rfl) (by kernel_rfl) (by kernel_rfl) (fun _ _ _ h => h) (Or.inr ⟨by rfl, rfl⟩) (by assumption) ?_
        simp only [Act.put, List.setIfInBounds_toArray, List.set_cons_zero, List.set_cons_succ]
        refine take_F (i := 16) (d := some 41) (v := undef) (by kernel_rfl) (by kernel_rfl) rfl rfl (by kernel_rfl) (by kernel_rfl) (by kernel_rfl) (fun _ _ _ h => h) (Or.inr ⟨by rfl, rfl⟩) (by assumption) ?_
        simp only [Act.put, List.setIfInBounds_toArray, List.set_cons_zero, List.set_cons_succ]
        refine take_F (i := 17) (d := some 42) (v := undef) (by kernel_rfl) (by kernel_rfl) rfl rfl (by kernel_rfl) (by kernel_rfl) (by kernel_rfl) (fun _ _ _ h => h) (Or.inr ⟨by rfl, rfl⟩) (by assumption) ?_
        simp only [Act.put, List.setIfInBounds_toArray, List.set_cons_zero, List.set_cons_succ]
        refine take_F (i := 18) (d := some 43) (v := undef) (by kernel_rfl) (by kernel_rfl) rfl rfl (by kernel_rfl) (by kernel_rfl) (by kernel_rfl) (fun _ _ _ h => h) (Or.inr ⟨by rfl, rfl⟩) (by assumption) ?_
        simp only [Act.put, List.setIfInBounds_toArray, List.set_cons_zero, List.set_cons_succ]
        refine take_F (i := 19) (d := some 44) (v := undef) (by kernel_rfl) (by kernel_rfl) rfl rfl (by kernel_rfl) (by kernel_rfl) (by kernel_rfl) (fun _ _ _ h => h) (Or.inr ⟨by rfl, rfl⟩) (by assumption) ?_
        simp only [Act.put, List.setIfInBounds_toArray, List.set_cons_zero, List.set_cons_succ]
        refine take_F (i := 20) (d := some 45) (v := undef) (by kernel_rfl) (by kernel_rfl) rfl rfl (by kernel_rfl) (by kernel_rfl) (by kernel_rfl) (fun _ _ _ h => h) (Or.inr ⟨by rfl, rfl⟩) (by assumption) ?_
        simp only [Act.put, List.setIfInBounds_toArray, List.set_cons_zero, List.set_cons_succ]
        refine take_F (i := 21) (d := some 46) (v := undef) (by kernel_rfl) (by kernel_rfl) rfl rfl (by kernel_rfl) (by kernel_rfl) (by kernel_rfl) (fun _ _ _ h => h) (Or.inr ⟨by rfl, rfl⟩) (by assumption) ?_
        simp only [Act.put, List.setIfInBounds_toArray, List.set_cons_zero, List.set_cons_succ]
        refine take_F (i := 22) (d := some 47) (v := undef) (by kernel_rfl) (by kernel_rfl) rfl rfl (by kernel_rfl) (by kernel_rfl) (by kernel_rfl) (fun _ _ _ h => h) (Or.inr ⟨by rfl, rfl⟩) (by assumption) ?_
        simp only [Act.put, List.setIfInBounds_toArray, List.set_cons_zero, List.set_cons_succ]
        refine take_F (i := 23) (d := some 48) (v := undef) (by kernel_rfl) (by kernel_rfl) rfl rfl (by kernel_rfl) (by kernel_rfl) (by kernel_rfl) (fun _ _ _ h => h) (Or.inr ⟨by rfl, rfl⟩) (by assumption) ?_
        simp only [Act.put, List.setIfInBounds_toArray, List.set_cons_zero, List.set_cons_succ]
        refine take_F (i := 24) (d := some 49) (v := undef) (by kernel_rfl) (by kernel_rfl) rfl rfl (by kernel_rfl) (by kernel_rfl) (by kernel_rfl) (fun _ _ _ h => h) (Or.inr ⟨by rfl, rfl⟩) (by assumption) ?_
        simp only [Act.put, List.setIfInBounds_toArray, List.set_cons_zero, List.set_cons_succ]
        refine take_F (i := 25) (d := some 50) (v := undef) (by kernel_rfl) (by kernel_rfl) rfl rfl (by kernel_rfl) (by kernel_rfl) (by kernel_rfl) (fun _ _ _ h => h) (Or.inr ⟨by rfl, rfl⟩) (by assumption) ?_
        simp only [Act.put, List.setIfInBounds_toArray, List.set_cons_zero, List.set_cons_succ]
        refine take_F (i := 26) (d := some 51) (v := undef) (by kernel_rfl) (by kernel_rfl) rfl rfl (by kernel_rfl) (by kernel_rfl) (by kernel_rfl) (fun _ _ _ h => h) (Or.inr ⟨by rfl, rfl⟩) (by assumption) ?_
        simp only [Act.put, List.setIfInBounds_toArray, List.set_cons_zero, List.set_cons_succ]
        refine take_F (i := 27) (d := some 52) (v := undef) (by kernel_rfl) (by kernel_rfl) rfl rfl (by kernel_rfl) (by kernel_rfl) (by kernel_rfl) (fun _ _ _ h => h) (Or.inr ⟨by rfl, rfl⟩) (by assumption) ?_
        simp only [Act.put, List.setIfInBounds_toArray, List.set_cons_zero, List.set_cons_succ]
        refine take_F (i := 28) (d := some 53) (v := undef) (by kernel_rfl) (by kernel_rfl) rfl rfl (by kernel_rfl) (by kernel_rfl) (by kernel_rfl) (fun _ _ _ h => h) (Or.inr ⟨by rfl, rfl⟩) (by assumption) ?_
        simp only [Act.put, List.setIfInBounds_toArray, List.set_cons_zero, List.set_cons_succ]
        refine take_F (i := 29) (d := some 54) (v := ?_) (by kernel_rfl) (by kernel_rfl) rfl rfl (by kernel_rfl) (by kernel_rfl) (by kernel_rfl) (fun _ _ _ h => h) (Or.inl ⟨by rfl, ?_⟩) (by assumption) ?_
        rotate_left
        · (intro w hSw; (try dsimp only at hSw); go_simp; (try rw [if_neg (by omega)]); (try (with_reducible rfl)))
        simp only [Act.put, List.setIfInBounds_toArray, List.set_cons_zero, List.set_cons_succ]
        refine done_L (by kernel_rfl) ?_ _
        refine NoPanic.normal ?_
        go_wp2_with fail
        go_ret
        exact ⟨rfl, by first | exact ⟨_, Hw.out 1⟩ | exact ⟨_, Hw0.out⟩⟩
      · rw [e0] at Hc0
        cases e1 : inB x1 0 l
        · have hno := Hn.out (by rw [Hx.out, e0, e1]; rfl)
          have hRf : R = false := by rw [HRf.out, hno]
          subst hRf
          rw [e1] at Hc1
          clear hno HRf Hn Hy Hx e0 e1
          go_wp2_with fail
          refine wp_region_noPanic ?_
          refine wp_region_L [] (fun w' => w'.cell? ⟨q, 0, none⟩ = some (.int .i64 u) ∧ w'.cell? ⟨q, 1, none⟩ = some (.int .i64 l) ∧ w'.cell? ⟨q, 3, none⟩ = some (.slice (some ⟨b, off, none⟩) rs.length c) ∧ w'.cell? ⟨b, off + k * 2, none⟩ = some (.int .i64 x0) ∧ w'.cell? ⟨b, off + k * 2 + 1, none⟩ = some (.int .i64 x1)) (by kernel_rfl) (⟨c0, c1, c3, r0, r1⟩) (fun hHeld => ?_)
          refine take_F (i := 0) (d := some 25) (v := ?_) (by kernel_rfl) (by kernel_rfl) rfl rfl (by kernel_rfl) (by kernel_rfl) (by kernel_rfl) (fun _ _ _ h => h) (Or.inl ⟨by rfl, ?_⟩) (by assumption) ?_
          rotate_left
          · (intro w hSw; (try dsimp only at hSw); go_simp; (try rw [if_neg (by omega)]); (try (with_reducible rfl)))
          simp only [Act.put, List.setIfInBounds_toArray, List.set_cons_zero, List.set_cons_succ]
          refine take_F (i := 1) (d := some 26) (v := ?_) (by kernel_rfl) (by kernel_rfl) rfl rfl (by kernel_rfl) (by kernel_rfl) (by kernel_rfl) (fun _ _ _ h => h) (Or.inl ⟨by rfl, ?_⟩) (by assumption) ?_
          rotate_left
          · (intro w hSw; (try dsimp only at hSw); go_simp; (try rw [if_neg (by omega)]); (try (with_reducible rfl)))
          simp only [Act.put, List.setIfInBounds_toArray, List.set_cons_zero, List.set_cons_succ]
          refine take_F (i := 2) (d := some 27) (v := ?_) (by kernel_rfl) (by kernel_rfl) rfl rfl (by kernel_rfl) (by kernel_rfl) (by kernel_rfl) (fun _ _ _ h => h) (Or.inl ⟨by rfl, ?_⟩) (by assumption) ?_
          rotate_left
          · (intro w hSw; (try dsimp only at hSw); go_simp; (try rw [if_neg (by omega)]); (try (with_reducible rfl)))
          simp only [Act.put, List.setIfInBounds_toArray, List.set_cons_zero, List.set_cons_succ]
          refine take_L [14,12,7,6,5,3] (i := 3) (d := some 28) (v := ?_) (by kernel_rfl) (by kernel_rfl) (by kernel_rfl) (by kernel_rfl) rfl rfl (by kernel_rfl) (by kernel_rfl) (by kernel_rfl) (fun _ _ _ h => h) (Or.inl ⟨by rfl, ?_⟩) (by assumption) ?_
          rotate_left
          · (intro w hSw; (try dsimp only at hSw); go_simp; (try rw [if_neg (by omega)]); (try (with_reducible rfl)))
          simp only [Act.put, List.setIfInBounds_toArray, List.set_cons_zero, List.set_cons_succ]
          refine take_F (i := 4) (d := some 29) (v := ?_) (by kernel_rfl) (by kernel_rfl) rfl rfl (by kernel_rfl) (by kernel_rfl) (by kernel_rfl) (fun _ _ _ h => h) (Or.inl ⟨by rfl, ?_⟩) (by assumption) ?_
          rotate_left
          · (intro w hSw; (try dsimp only at hSw); go_simp; (try rw [if_neg (by omega)]); (try (with_reducible rfl)))
          simp only [Act.put, List.setIfInBounds_toArray, List.set_cons_zero, List.set_cons_succ]
          refine take_F (i := 5) (d := some 30) (v := ?_) (by kernel_rfl) (by kernel_rfl) rfl rfl (by kernel_rfl) (by kernel_rfl) (by kernel_rfl) (fun _ _ _ h => h) (Or.inl ⟨by rfl, ?_⟩) (by assumption) ?_
          rotate_left
          · (intro w hSw; (try dsimp only at hSw); go_simp; (try rw [if_neg (by omega)]); (try (with_reducible rfl)))
          simp only [Act.put, List.setIfInBounds_toArray, List.set_cons_zero, List.set_cons_succ]
          refine take_F (i := 6) (d := some 31) (v := ?_) (by kernel_rfl) (by kernel_rfl) rfl rfl (by kernel_rfl) (by kernel_rfl) (by kernel_rfl) (fun _ _ _ h => h) (Or.inl ⟨by rfl, ?_⟩) (by assumption) ?_
          rotate_left
          · (intro w hSw; (try dsimp only at hSw); go_simp; (try rw [if_neg (by omega)]); (try (with_reducible rfl)))
          simp only [Act.put, List.setIfInBounds_toArray, List.set_cons_zero, List.set_cons_succ]
          refine take_L [14,12,7] (i := 7) (d := some 32) (v := ?_) (by kernel_rfl) (by kernel_rfl) (by kernel_rfl) (by kernel_rfl) rfl rfl (by kernel_rfl) (by kernel_rfl) (by kernel_rfl) (fun _ _ _ h => h) (Or.inl ⟨by rfl, ?_⟩) (by assumption) ?_
          rotate_left
          · (intro w hSw; (try dsimp only at hSw); go_simp; (try rw [if_neg (by omega)]); (try (with_reducible rfl)))
          simp only [Act.put, List.setIfInBounds_toArray, List.set_cons_zero, List.set_cons_succ]
          refine take_F (i := 8) (d := some 33) (v := ?_) (by kernel_rfl) (by kernel_rfl) rfl rfl (by kernel_rfl) (by kernel_rfl) (by kernel_rfl) (fun _ _ _ h => h) (Or.inl ⟨by rfl, ?_⟩) (by assumption) ?_
          rotate_left
          · (intro w hSw; (try dsimp only at hSw); go_simp; (try rw [if_neg (by omega)]); (try (with_reducible rfl)))
          simp only [Act.put, List.setIfInBounds_toArray, List.set_cons_zero, List.set_cons_succ]
          refine take_F (i := 9) (d := some 34) (v := ?_) (by kernel_rfl) (by kernel_rfl) rfl rfl (by kernel_rfl) (by kernel_rfl) (by kernel_rfl) (fun _ _ _ h => h) (Or.inl ⟨by rfl, ?_⟩) (by assumption) ?_
          rotate_left
          · (intro w hSw; (try dsimp only at hSw); go_simp; (try rw [if_neg (by omega)]); (try (with_reducible rfl)))
          simp only [Act.put, List.setIfInBounds_toArray, List.set_cons_zero, List.set_cons_succ]
          refine take_F (i := 10) (d := some 35) (v := ?_) (by kernel_rfl) (by kernel_rfl) rfl rfl (by kernel_rfl) (by kernel_rfl) (by kernel_rfl) (fun _ _ _ h => h) (Or.inl ⟨by rfl, ?_⟩) (by assumption) ?_
          rotate_left
          · (intro w hSw; (try dsimp only at hSw); go_simp; (try rw [if_neg (by omega)]); (try (with_reducible rfl)))
          simp only [Act.put, List.setIfInBounds_toArray, List.set_cons_zero, List.set_cons_succ]
          refine take_L [14,12,11] (i := 11) (d := some 36) (v := ?_) (by kernel_rfl) (by kernel_rfl) (by kernel_rfl) (by kernel_rfl) rfl rfl (by kernel_rfl) (by kernel_rfl) (by kernel_rfl) (fun _ _ _ h => h) (Or.inl ⟨by rfl, ?_⟩) (by assumption) ?_
          rotate_left
          · (intro w hSw; (try dsimp only at hSw); go_simp; (try rw [if_neg (by omega)]); (try (with_reducible rfl)))
          simp only [Act.put, List.setIfInBounds_toArray, List.set_cons_zero, List.set_cons_succ]
          refine call_L (i := 12) (d := (some 37)) rfl rfl (by kernel_rfl) (fun Kq hKq => ?_)
          go_simp
          go_at_call 72
          refine (Hc0.out _).mono ?_; rintro e w61 ⟨rfl, rfl⟩
          (try go_wp2_with fail)
          refine hKq.out _ _ (⟨c0, c1, c3, r0, r1⟩) (fun hHeld => ?_)
          clear hKq Kq
          (try simp only [Act.put, List.setIfInBounds_toArray, List.set_cons_zero, List.set_cons_succ])
          refine take_F (i := 13) (d := some 38) (v := ?_) (by kernel_rfl) (by kernel_rfl) rfl rfl (by kernel_rfl) (by kernel_rfl) (by kernel_rfl) (fun _ _ _ h => h) (Or.inl ⟨by rfl, ?_⟩) (by assumption) ?_
          rotate_left
          · (intro w hSw; (try dsimp only at hSw); go_simp; (try rw [if_neg (by omega)]); (try (with_reducible rfl)))
          simp only [Act.put, List.setIfInBounds_toArray, List.set_cons_zero, List.set_cons_succ]
          refine take_F (i := 14) (d := some 39) (v := ?_) (by kernel_rfl) (by kernel_rfl) rfl rfl (by kernel_rfl) (by kernel_rfl) (by kernel_rfl) (fun _ _ _ h => h) (Or.inl ⟨by rfl, ?_⟩) (by assumption) ?_
          rotate_left
          · (intro w hSw; (try dsimp only at hSw); go_simp; (try rw [if_neg (by omega)]); (try (with_reducible rfl)))
          simp only [Act.put, List.setIfInBounds_toArray, List.set_cons_zero, List.set_cons_succ]
          refine take_F (i := 15) (d := some 40) (v := ?_) (by kernel_rfl) (by kernel_rfl) rfl rfl (by kernel_rfl) (by kernel_rfl) (by kernel_rfl) (fun _ _ _ h => h) (Or.inl ⟨by rfl, ?_⟩) (by assumption) ?_
          rotate_left
          · (intro w hSw; (try dsimp only at hSw); go_simp; (try rw [if_neg (by omega)]); (try (with_reducible rfl)))
          simp only [Act.put, List.setIfInBounds_toArray, List.set_cons_zero, List.set_cons_succ]
          refine take_F (i := 16) (d := some 41) (v := ?_) (by kernel_rfl) (by kernel_rfl) rfl rfl (by kernel_rfl) (by kernel_rfl) (by kernel_rfl) (fun _ _ _ h => h) (Or.inl ⟨by rfl, ?_⟩) (by assumption) ?_
          rotate_left
          · (intro w hSw; (try dsimp only at hSw); go_simp; (try rw [if_neg (by omega)]); (try (with_reducible rfl)))
          simp only [Act.put, List.setIfInBounds_toArray, List.set_cons_zero, List.set_cons_succ]
          refine take_F (i := 17) (d := some 42) (v := ?_) (by kernel_rfl) (by kernel_rfl) rfl rfl (by kernel_rfl) (by kernel_rfl) (by kernel_rfl) (fun _ _ _ h => h) (Or.inl ⟨by rfl, ?_⟩) (by assumption) ?_
          rotate_left
          · (intro w hSw; (try dsimp only at hSw); go_simp; (try rw [if_neg (by omega)]); (try (with_reducible rfl)))
          simp only [Act.put, List.setIfInBounds_toArray, List.set_cons_zero, List.set_cons_succ]
          refine take_L [28,27,22,21,20,18] (i := 18) (d := some 43) (v := ?_) (by kernel_rfl) (by kernel_rfl) (by kernel_rfl) (by kernel_rfl) rfl rfl (by kernel_rfl) (by kernel_rfl) (by kernel_rfl) (fun _ _ _ h => h) (Or.inl ⟨by rfl, ?_⟩) (by assumption) ?_
          rotate_left
          · (intro w hSw; (try dsimp only at hSw); go_simp; (try rw [if_neg (by omega)]); (try (with_reducible rfl)))
          simp only [Act.put, List.setIfInBounds_toArray, List.set_cons_zero, List.set_cons_succ]
          refine take_F (i := 19) (d := some 44) (v := ?_) (by kernel_rfl) (by kernel_rfl) rfl rfl (by kernel_rfl) (by kernel_rfl) (by kernel_rfl) (fun _ _ _ h => h) (Or.inl ⟨by rfl, ?_⟩) (by assumption) ?_
          rotate_left
          · (intro w hSw; (try dsimp only at hSw); go_simp; (try rw [if_neg (by omega)]); (try (with_reducible rfl)))
          simp only [Act.put, List.setIfInBounds_toArray, List.set_cons_zero, List.set_cons_succ]
          refine take_F (i := 20) (d := some 45) (v := ?_) (by kernel_rfl) (by kernel_rfl) rfl rfl (by kernel_rfl) (by kernel_rfl) (by kernel_rfl) (fun _ _ _ h => h) (Or.inl ⟨by rfl, ?_⟩) (by assumption) ?_
          rotate_left
          · (intro w hSw; (try dsimp only at hSw); go_simp; (try rw [if_neg (by omega)]); (try (with_reducible rfl)))
          simp only [Act.put, List.setIfInBounds_toArray, List.set_cons_zero, List.set_cons_succ]
          refine take_F (i := 21) (d := some 46) (v := ?_) (by kernel_rfl) (by kernel_rfl) rfl rfl (by kernel_rfl) (by kernel_rfl) (by kernel_rfl) (fun _ _ _ h => h) (Or.inl ⟨by rfl, ?_⟩) (by assumption) ?_
          rotate_left
          · (intro w hSw; (try dsimp only at hSw); go_simp; (try rw [if_neg (by omega)]); (try (with_reducible rfl)))
          simp only [Act.put, List.setIfInBounds_toArray, List.set_cons_zero, List.set_cons_succ]
          refine take_L [28,27,22] (i := 22) (d := some 47) (v := ?_) (by kernel_rfl) (by kernel_rfl) (by kernel_rfl) (by kernel_rfl) rfl rfl (by kernel_rfl) (by kernel_rfl) (by kernel_rfl) (fun _ _ _ h => h) (Or.inl ⟨by rfl, ?_⟩) (by assumption) ?_
          rotate_left
          · (intro w hSw; (try dsimp only at hSw); go_simp; (try rw [if_neg (by omega)]); (try (with_reducible rfl)))
          simp only [Act.put, List.setIfInBounds_toArray, List.set_cons_zero, List.set_cons_succ]
          refine take_F (i := 23) (d := some 48) (v := ?_) (by kernel_rfl) (by kernel_rfl) rfl rfl (by kernel_rfl) (by kernel_rfl) (by kernel_rfl) (fun _ _ _ h => h) (Or.inl ⟨by rfl, ?_⟩) (by assumption) ?_
          rotate_left
          · (intro w hSw; (try dsimp only at hSw); go_simp; (try rw [if_neg (by omega)]); (try (with_reducible rfl)))
          simp only [Act.put, List.setIfInBounds_toArray, List.set_cons_zero, List.set_cons_succ]
          refine take_F (i := 24) (d := some 49) (v := ?_) (by kernel_rfl) (by kernel_rfl) rfl rfl (by kernel_rfl) (by kernel_rfl) (by kernel_rfl) (fun _ _ _ h => h) (Or.inl ⟨by rfl, ?_⟩) (by assumption) ?_
          rotate_left
          · (intro w hSw; (try dsimp only at hSw); go_simp; (try rw [if_neg (by omega)]); (try (with_reducible rfl)))
          simp only [Act.put, List.setIfInBounds_toArray, List.set_cons_zero, List.set_cons_succ]
          refine take_F (i := 25) (d := some 50) (v := ?_) (by kernel_rfl) (by kernel_rfl) rfl rfl (by kernel_rfl) (by kernel_rfl) (by kernel_rfl) (fun _ _ _ h => h) (Or.inl ⟨by rfl, ?_⟩) (by assumption) ?_
          rotate_left
          · (intro w hSw; (try dsimp only at hSw); go_simp; (try rw [if_neg (by omega)]); (try (with_reducible rfl)))
          simp only [Act.put, List.setIfInBounds_toArray, List.set_cons_zero, List.set_cons_succ]
          refine take_L [28,27,26] (i := 26) (d := some 51) (v := ?_) (by kernel_rfl) (by kernel_rfl) (by kernel_rfl) (by kernel_rfl) rfl rfl (by kernel_rfl) (by kernel_rfl) (by kernel_rfl) (fun _ _ _ h => h) (Or.inl ⟨by rfl, ?_⟩) (by assumption) ?_
          rotate_left
          · (intro w hSw; (try dsimp only at hSw); go_simp; (try rw [if_neg (by omega)]); (try (with_reducible rfl)))
          simp only [Act.put, List.setIfInBounds_toArray, List.set_cons_zero, List.set_cons_succ]
          refine call_L (i := 27) (d := (some 52)) rfl rfl (by kernel_rfl) (fun Kq hKq => ?_)
          go_simp
          go_at_call 72
          refine (Hc1.out _).mono ?_; rintro e w62 ⟨rfl, rfl⟩
          (try go_wp2_with fail)
          refine hKq.out _ _ (⟨c0, c1, c3, r0, r1⟩) (fun hHeld => ?_)
          clear hKq Kq
          (try simp only [Act.put, List.setIfInBounds_toArray, List.set_cons_zero, List.set_cons_succ])
          refine take_F (i := 28) (d := some 53) (v := ?_) (by kernel_rfl) (by kernel_rfl) rfl rfl (by kernel_rfl) (by kernel_rfl) (by kernel_rfl) (fun _ _ _ h => h) (Or.inl ⟨by rfl, ?_⟩) (by assumption) ?_
          rotate_left
          · (intro w hSw; (try dsimp only at hSw); go_simp; (try rw [if_neg (by omega)]); (try (with_reducible rfl)))
          simp only [Act.put, List.setIfInBounds_toArray, List.set_cons_zero, List.set_cons_succ]
          refine take_F (i := 29) (d := some 54) (v := ?_) (by kernel_rfl) (by kernel_rfl) rfl rfl (by kernel_rfl) (by kernel_rfl) (by kernel_rfl) (fun _ _ _ h => h) (Or.inl ⟨by rfl, ?_⟩) (by assumption) ?_
          rotate_left
          · (intro w hSw; (try dsimp only at hSw); go_simp; (try rw [if_neg (by omega)]); (try (with_reducible rfl)))
          simp only [Act.put, List.setIfInBounds_toArray, List.set_cons_zero, List.set_cons_succ]
          refine done_L (by kernel_rfl) ?_ _
          refine NoPanic.normal ?_
          go_wp2_with fail
          go_ret
          exact ⟨rfl, by first | exact ⟨_, Hw.out 1⟩ | exact ⟨_, Hw0.out⟩⟩
        · have hyes := Lib.hid (Hy.out (by rw [Hx.out, e0, e1]; rfl))
          rw [e1] at Hc1
          clear Hn Hy Hx e0 e1
          go_wp2_with fail
          refine wp_region_noPanic ?_
          refine wp_region_L [] (fun w' => w'.cell? ⟨q, 0, none⟩ = some (.int .i64 u) ∧ w'.cell? ⟨q, 1, none⟩ = some (.int .i64 l) ∧ w'.cell? ⟨q, 3, none⟩ = some (.slice (some ⟨b, off, none⟩) rs.length c) ∧ w'.cell? ⟨b, off + k * 2, none⟩ = some (.int .i64 x0) ∧ w'.cell? ⟨b, off + k * 2 + 1, none⟩ = some (.int .i64 x1)) (by kernel_rfl) (⟨c0, c1, c3, r0, r1⟩) (fun hHeld => ?_)
          refine take_F (i := 0) (d := some 25) (v := ?_) (by kernel_rfl) (by kernel_rfl) rfl rfl (by kernel_rfl) (by kernel_rfl) (by kernel_rfl) (fun _ _ _ h => h) (Or.inl ⟨by rfl, ?_⟩) (by assumption) ?_
          rotate_left
          · (intro w hSw; (try dsimp only at hSw); go_simp; (try rw [if_neg (by omega)]); (try (with_reducible rfl)))
          simp only [Act.put, List.setIfInBounds_toArray, List.set_cons_zero, List.set_cons_succ]
          refine take_F (i := 1) (d := some 26) (v := ?_) (by kernel_rfl) (by kernel_rfl) rfl rfl (by kernel_rfl) (by kernel_rfl) (by kernel_rfl) (fun _ _ _ h => h) (Or.inl ⟨by rfl, ?_⟩) (by assumption) ?_
          rotate_left
          · (intro w hSw; (try dsimp only at hSw); go_simp; (try rw [if_neg (by omega)]); (try (with_reducible rfl)))
          simp only [Act.put, List.setIfInBounds_toArray, List.set_cons_zero, List.set_cons_succ]
          refine take_F (i := 2) (d := some 27) (v := ?_) (by kernel_rfl) (by kernel_rfl) rfl rfl (by kernel_rfl) (by kernel_rfl) (by kernel_rfl) (fun _ _ _ h => h) (Or.inl ⟨by rfl, ?_⟩) (by assumption) ?_
          rotate_left
          · (intro w hSw; (try dsimp only at hSw); go_simp; (try rw [if_neg (by omega)]); (try (with_reducible rfl)))
          simp only [Act.put, List.setIfInBounds_toArray, List.set_cons_zero, List.set_cons_succ]
          refine take_L [14,12,7,6,5,3] (i := 3) (d := some 28) (v := ?_) (by kernel_rfl) (by kernel_rfl) (by kernel_rfl) (by kernel_rfl) rfl rfl (by kernel_rfl) (by kernel_rfl) (by kernel_rfl) (fun _ _ _ h => h) (Or.inl ⟨by rfl, ?_⟩) (by assumption) ?_
          rotate_left
          · (intro w hSw; (try dsimp only at hSw); go_simp; (try rw [if_neg (by omega)]); (try (with_reducible rfl)))
          simp only [Act.put, List.setIfInBounds_toArray, List.set_cons_zero, List.set_cons_succ]
          refine take_F (i := 4) (d := some 29) (v := ?_) (by kernel_rfl) (by kernel_rfl) rfl rfl (by kernel_rfl) (by kernel_rfl) (by kernel_rfl) (fun _ _ _ h => h) (Or.inl ⟨by rfl, ?_⟩) (by assumption) ?_
          rotate_left
          · (intro w hSw; (try dsimp only at hSw); go_simp; (try rw [if_neg (by omega)]); (try (with_reducible rfl)))
          simp only [Act.put, List.setIfInBounds_toArray, List.set_cons_zero, List.set_cons_succ]
          refine take_F (i := 5) (d := some 30) (v := ?_) (by kernel_rfl) (by kernel_rfl) rfl rfl (by kernel_rfl) (by kernel_rfl) (by kernel_rfl) (fun _ _ _ h => h) (Or.inl ⟨by rfl, ?_⟩) (by assumption) ?_
          rotate_left
          · (intro w hSw; (try dsimp only at hSw); go_simp; (try rw [if_neg (by omega)]); (try (with_reducible rfl)))
          simp only [Act.put, List.setIfInBounds_toArray, List.set_cons_zero, List.set_cons_succ]
          refine take_F (i := 6) (d := some 31) (v := ?_) (by kernel_rfl) (by kernel_rfl) rfl rfl (by kernel_rfl) (by kernel_rfl) (by kernel_rfl) (fun _ _ _ h => h) (Or.inl ⟨by rfl, ?_⟩) (by assumption) ?_
          rotate_left
          · (intro w hSw; (try dsimp only at hSw); go_simp; (try rw [if_neg (by omega)]); (try (with_reducible rfl)))
          simp only [Act.put, List.setIfInBounds_toArray, List.set_cons_zero, List.set_cons_succ]
          refine take_L [14,12,7] (i := 7) (d := some 32) (v := ?_) (by kernel_rfl) (by kernel_rfl) (by kernel_rfl) (by kernel_rfl) rfl rfl (by kernel_rfl) (by kernel_rfl) (by kernel_rfl) (fun _ _ _ h => h) (Or.inl ⟨by rfl, ?_⟩) (by assumption) ?_
          rotate_left
          · (intro w hSw; (try dsimp only at hSw); go_simp; (try rw [if_neg (by omega)]); (try (with_reducible rfl)))
          simp only [Act.put, List.setIfInBounds_toArray, List.set_cons_zero, List.set_cons_succ]
          refine take_F (i := 8) (d := some 33) (v := ?_) (by kernel_rfl) (by kernel_rfl) rfl rfl (by kernel_rfl) (by kernel_rfl) (by kernel_rfl) (fun _ _ _ h => h) (Or.inl ⟨by rfl, ?_⟩) (by assumption) ?_
          rotate_left
          · (intro w hSw; (try dsimp only at hSw); go_simp; (try rw [if_neg (by omega)]); (try (with_reducible rfl)))
          simp only [Act.put, List.setIfInBounds_toArray, List.set_cons_zero, List.set_cons_succ]
          refine take_F (i := 9) (d := some 34) (v := ?_) (by kernel_rfl) (by kernel_rfl) rfl rfl (by kernel_rfl) (by kernel_rfl) (by kernel_rfl) (fun _ _ _ h => h) (Or.inl ⟨by rfl, ?_⟩) (by assumption) ?_
          rotate_left
          · (intro w hSw; (try dsimp only at hSw); go_simp; (try rw [if_neg (by omega)]); (try (with_reducible rfl)))
          simp only [Act.put, List.setIfInBounds_toArray, List.set_cons_zero, List.set_cons_succ]
          refine take_F (i := 10) (d := some 35) (v := ?_) (by kernel_rfl) (by kernel_rfl) rfl rfl (by kernel_rfl) (by kernel_rfl) (by kernel_rfl) (fun _ _ _ h => h) (Or.inl ⟨by rfl, ?_⟩) (by assumption) ?_
          rotate_left
          · (intro w hSw; (try dsimp only at hSw); go_simp; (try rw [if_neg (by omega)]); (try (with_reducible rfl)))
          simp only [Act.put, List.setIfInBounds_toArray, List.set_cons_zero, List.set_cons_succ]
          refine take_L [14,12,11] (i := 11) (d := some 36) (v := ?_) (by kernel_rfl) (by kernel_rfl) (by kernel_rfl) (by kernel_rfl) rfl rfl (by kernel_rfl) (by kernel_rfl) (by kernel_rfl) (fun _ _ _ h => h) (Or.inl ⟨by rfl, ?_⟩) (by assumption) ?_
          rotate_left
          · (intro w hSw; (try dsimp only at hSw); go_simp; (try rw [if_neg (by omega)]); (try (with_reducible rfl)))
          simp only [Act.put, List.setIfInBounds_toArray, List.set_cons_zero, List.set_cons_succ]
          refine call_L (i := 12) (d := (some 37)) rfl rfl (by kernel_rfl) (fun Kq hKq => ?_)
          go_simp
          go_at_call 72
          refine (Hc0.out _).mono ?_; rintro e w61 ⟨rfl, rfl⟩
          (try go_wp2_with fail)
          refine hKq.out _ _ (⟨c0, c1, c3, r0, r1⟩) (fun hHeld => ?_)
          clear hKq Kq
          (try simp only [Act.put, List.setIfInBounds_toArray, List.set_cons_zero, List.set_cons_succ])
          refine take_F (i := 13) (d := some 38) (v := ?_) (by kernel_rfl) (by kernel_rfl) rfl rfl (by kernel_rfl) (by kernel_rfl) (by kernel_rfl) (fun _ _ _ h => h) (Or.inl ⟨by rfl, ?_⟩) (by assumption) ?_
          rotate_left
          · (intro w hSw; (try dsimp only at hSw); go_simp; (try rw [if_neg (by omega)]); (try (with_reducible rfl)))
          simp only [Act.put, List.setIfInBounds_toArray, List.set_cons_zero, List.set_cons_succ]
          refine take_F (i := 14) (d := some 39) (v := ?_) (by kernel_rfl) (by kernel_rfl) rfl rfl (by kernel_rfl) (by kernel_rfl) (by kernel_rfl) (fun _ _ _ h => h) (Or.inl ⟨by rfl, ?_⟩) (by assumption) ?_
          rotate_left
          · (intro w hSw; (try dsimp only at hSw); go_simp; (try rw [if_neg (by omega)]); (try (with_reducible rfl)))
          simp only [Act.put, List.setIfInBounds_toArray, List.set_cons_zero, List.set_cons_succ]
          refine take_F (i := 15) (d := some 40) (v := ?_) (by kernel_rfl) (by kernel_rfl) rfl rfl (by kernel_rfl) (by kernel_rfl) (by kernel_rfl) (fun _ _ _ h => h) (Or.inl ⟨by rfl, ?_⟩) (by assumption) ?_
          rotate_left
          · (intro w hSw; (try dsimp only at hSw); go_simp; (try rw [if_neg (by omega)]); (try (with_reducible rfl)))
          simp only [Act.put, List.setIfInBounds_toArray, List.set_cons_zero, List.set_cons_succ]
          refine take_F (i := 16) (d := some 41) (v := ?_) (by kernel_rfl) (by kernel_rfl) rfl rfl (by kernel_rfl) (by kernel_rfl) (by kernel_rfl) (fun _ _ _ h => h) (Or.inl ⟨by rfl, ?_⟩) (by assumption) ?_
          rotate_left
          · (intro w hSw; (try dsimp only at hSw); go_simp; (try rw [if_neg (by omega)]); (try (with_reducible rfl)))
          simp only [Act.put, List.setIfInBounds_toArray, List.set_cons_zero, List.set_cons_succ]
          refine take_F (i := 17) (d := some 42) (v := ?_) (by kernel_rfl) (by kernel_rfl) rfl rfl (by kernel_rfl) (by kernel_rfl) (by kernel_rfl) (fun _ _ _ h => h) (Or.inl ⟨by rfl, ?_⟩) (by assumption) ?_
          rotate_left
          · (intro w hSw; (try dsimp only at hSw); go_simp; (try rw [if_neg (by omega)]); (try (with_reducible rfl)))
          simp only [Act.put, List.setIfInBounds_toArray, List.set_cons_zero, List.set_cons_succ]
          refine take_L [28,27,22,21,20,18] (i := 18) (d := some 43) (v := ?_) (by kernel_rfl) (by kernel_rfl) (by kernel_rfl) (by kernel_rfl) rfl rfl (by kernel_rfl) (by kernel_rfl) (by kernel_rfl) (fun _ _ _ h => h) (Or.inl ⟨by rfl, ?_⟩) (by assumption) ?_
          rotate_left
          · (intro w hSw; (try dsimp only at hSw); go_simp; (try rw [if_neg (by omega)]); (try (with_reducible rfl)))
          simp only [Act.put, List.setIfInBounds_toArray, List.set_cons_zero, List.set_cons_succ]
          refine take_F (i := 19) (d := some 44) (v := ?_) (by kernel_rfl) (by kernel_rfl) rfl rfl (by kernel_rfl) (by kernel_rfl) (by kernel_rfl) (fun _ _ _ h => h) (Or.inl ⟨by rfl, ?_⟩) (by assumption) ?_
          rotate_left
          · (intro w hSw; (try dsimp only at hSw); go_simp; (try rw [if_neg (by omega)]); (try (with_reducible rfl)))
          simp only [Act.put, List.setIfInBounds_toArray, List.set_cons_zero, List.set_cons_succ]
          refine take_F (i := 20) (d := some 45) (v := ?_) (by kernel_rfl) (by kernel_rfl) rfl rfl (by kernel_rfl) (by kernel_rfl) (by kernel_rfl) (fun _ _ _ h => h) (Or.inl ⟨by rfl, ?_⟩) (by assumption) ?_
          rotate_left
          · (intro w hSw; (try dsimp only at hSw); go_simp; (try rw [if_neg (by omega)]); (try (with_reducible rfl)))
          simp only [Act.put, List.setIfInBounds_toArray, List.set_cons_zero, List.set_cons_succ]
          refine take_F (i := 21) (d := some 46) (v := ?_) (by kernel_rfl) (by kernel_rfl) rfl rfl (by kernel_rfl) (by kernel_rfl) (by kernel_rfl) (fun _ _ _ h => h) (Or.inl ⟨by rfl, ?_⟩) (by assumption) ?_
          rotate_left
          · (intro w hSw; (try dsimp only at hSw); go_simp; (try rw [if_neg (by omega)]); (try (with_reducible rfl)))
          simp only [Act.put, List.setIfInBounds_toArray, List.set_cons_zero, List.set_cons_succ]
          refine take_L [28,27,22] (i := 22) (d := some 47) (v := ?_) (by kernel_rfl) (by kernel_rfl) (by kernel_rfl) (by kernel_rfl) rfl rfl (by kernel_rfl) (by kernel_rfl) (by kernel_rfl) (fun _ _ _ h => h) (Or.inl ⟨by rfl, ?_⟩) (by assumption) ?_
          rotate_left
          · (intro w hSw; (try dsimp only at hSw); go_simp; (try rw [if_neg (by omega)]); (try (with_reducible rfl)))
          simp only [Act.put, List.setIfInBounds_toArray, List.set_cons_zero, List.set_cons_succ]
          refine take_F (i := 23) (d := some 48) (v := ?_) (by kernel_rfl) (by kernel_rfl) rfl rfl (by kernel_rfl) (by kernel_rfl) (by kernel_rfl) (fun _ _ _ h => h) (Or.inl ⟨by rfl, ?_⟩) (by assumption) ?_
          rotate_left
          · (intro w hSw; (try dsimp only at hSw); go_simp; (try rw [if_neg (by omega)]); (try (with_reducible rfl)))
          simp only [Act.put, List.setIfInBounds_toArray, List.set_cons_zero, List.set_cons_succ]
          refine take_F (i := 24) (d := some 49) (v := ?_) (by kernel_rfl) (by kernel_rfl) rfl rfl (by kernel_rfl) (by kernel_rfl) (by kernel_rfl) (fun _ _ _ h => h) (Or.inl ⟨by rfl, ?_⟩) (by assumption) ?_
          rotate_left
          · (intro w hSw; (try dsimp only at hSw); go_simp; (try rw [if_neg (by omega)]); (try (with_reducible rfl)))
          simp only [Act.put, List.setIfInBounds_toArray, List.set_cons_zero, List.set_cons_succ]
          refine take_F (i := 25) (d := some 50) (v := ?_) (by kernel_rfl) (by kernel_rfl) rfl rfl (by kernel_rfl) (by kernel_rfl) (by kernel_rfl) (fun _ _ _ h => h) (Or.inl ⟨by rfl, ?_⟩) (by assumption) ?_
          rotate_left
          · (intro w hSw; (try dsimp only at hSw); go_simp; (try rw [if_neg (by omega)]); (try (with_reducible rfl)))
          simp only [Act.put, List.setIfInBounds_toArray, List.set_cons_zero, List.set_cons_succ]
          refine take_L [28,27,26] (i := 26) (d := some 51) (v := ?_) (by kernel_rfl) (by kernel_rfl) (by kernel_rfl) (by kernel_rfl) rfl rfl (by kernel_rfl) (by kernel_rfl) (by kernel_rfl) (fun _ _ _ h => h) (Or.inl ⟨by rfl, ?_⟩) (by assumption) ?_
          rotate_left
          · (intro w hSw; (try dsimp only at hSw); go_simp; (try rw [if_neg (by omega)]); (try (with_reducible rfl)))
          simp only [Act.put, List.setIfInBounds_toArray, List.set_cons_zero, List.set_cons_succ]
          refine call_L (i := 27) (d := (some 52)) rfl rfl (by kernel_rfl) (fun Kq hKq => ?_)
          go_simp
          go_at_call 72
          refine (Hc1.out _).mono ?_; rintro e w62 ⟨rfl, rfl⟩
          (try go_wp2_with fail)
          refine hKq.out _ _ (⟨c0, c1, c3, r0, r1⟩) (fun hHeld => ?_)
          clear hKq Kq
          (try simp only [Act.put, List.setIfInBounds_toArray, List.set_cons_zero, List.set_cons_succ])
          refine take_F (i := 28) (d := some 53) (v := ?_) (by kernel_rfl) (by kernel_rfl) rfl rfl (by kernel_rfl) (by kernel_rfl) (by kernel_rfl) (fun _ _ _ h => h) (Or.inl ⟨by rfl, ?_⟩) (by assumption) ?_
          rotate_left
          · (intro w hSw; (try dsimp only at hSw); go_simp; (try rw [if_neg (by omega)]); (try (with_reducible rfl)))
          simp only [Act.put, List.setIfInBounds_toArray, List.set_cons_zero, List.set_cons_succ]
          refine take_F (i := 29) (d := some 54) (v := ?_) (by kernel_rfl) (by kernel_rfl) rfl rfl (by kernel_rfl) (by kernel_rfl) (by kernel_rfl) (fun _ _ _ h => h) (Or.inl ⟨by rfl, ?_⟩) (by assumption) ?_
          rotate_left
          · (intro w hSw; (try dsimp only at hSw); go_simp; (try rw [if_neg (by omega)]); (try (with_reducible rfl)))
          simp only [Act.put, List.setIfInBounds_toArray, List.set_cons_zero, List.set_cons_succ]
          refine done_L (by kernel_rfl) ?_ _
          refine NoPanic.normal ?_
          (try go_wp2_with fail)
          go_roundw
          case rel => first | exact ⟨k + 1, _, by omega, by go_num, hyes.out, Hw.out 1⟩ | exact ⟨k + 1, _, by omega, by go_num, hyes.out, Hw0.out⟩
          case measure => simp [intOf]; omega
    · have hkn : k = rs.length := by omega
      subst hkn
      have hlt' : ¬ (rs.length : Int) < (rs.length : Int) := by omega
      have hRf : R = true := by
        have h1 := Hal.out
        rw [List.take_length] at h1
        rw [HRf.out, h1]
      subst hRf
      clear HRf
      go_wp2_with fail
      go_ret
      exact ⟨rfl, _, Hw0.out⟩
end Go.Proofs.Ytemcdmjnokpldaa
/- Abaci: ValidAbacus, impl. -/
namespace Go.Proofs.Ytemcdmjnokpldaa
open Go.RowKit Go.Joins

set_option maxRecDepth 100000 in
set_option maxHeartbeats 1600000 in
theorem ValidAbI_any (B : Nat) (u l w : Int) (v : Value) (rs : List (Int × Int)) (W : World) (h : Rd W B v rs.length 2 (rodsC rs)) (hB : B ≤ W.heap.size) (hm : rs.length ≤ 1048576) : Calls Try.prog 66 #[aggAb u l w v] W fun e w' => e = .returned (.bool (okAb ⟨u, l, w, rs⟩)) ∧ Below W.heap.size W w' := by
  have hk := kindAb_cases u l w rs
  have HK0 := Lib.hid (fun h => okAb_kind (a := ⟨u, l, w, rs⟩) h)
  have HK1 := Lib.hid (fun h => okAb_rest (a := ⟨u, l, w, rs⟩) h)
  have H := Lib.hid h
  obtain ⟨_, A, c, rfl, _⟩ := h
  have hb1 := (Below.refl W.heap.size W).alloc (Nat.le_refl _) (.cells #[.int .i64 u, .int .i64 l, .int .i64 w, .slice A rs.length c] 26)
  have HB := Lib.hid hb1
  have H1 := Lib.hid (fun wx => between_any u 0 4 wx)
  have H2 := Lib.hid (fun wx => between_any l 1 12 wx)
  have H3 := Lib.hid (fun wx => between_any w 1 10 wx)
  obtain ⟨c0, c1, c2, c3⟩ := four_at (heap_alloc_new W (.cells #[.int .i64 u, .int .i64 l, .int .i64 w, .slice A rs.length c] 26))
  generalize okAb ⟨u, l, w, rs⟩ = R at *
  generalize kindAb ⟨u, l, w, rs⟩ = K at *
  clear hb1
  rcases hk with ⟨g1, rfl⟩ | ⟨g1, g2, rfl⟩ | ⟨g1, g2, g3, rfl⟩ | ⟨g1, g2, g3, g4, rfl⟩ | ⟨g1, g2, g3, g4, g5, rfl⟩ | ⟨g1, g2, g3, g4, g5, rfl⟩
  · have hR := HK0.out rfl
    subst hR
    rw [g1] at H1
    clear g1 HK0 HK1
    go_enter Try.func66, Try.ntmps66
    go_wp2_with fail
    refine (H1.out _).mono ?_; rintro e w1 ⟨rfl, rfl⟩
    go_wp2_with fail
    go_ret
    exact ⟨rfl, HB.out⟩
  · have hR := HK0.out rfl
    subst hR
    rw [g1] at H1
    rw [g2] at H2
    clear g1 g2 HK0 HK1
    go_enter Try.func66, Try.ntmps66
    go_wp2_with fail
    refine (H1.out _).mono ?_; rintro e w1 ⟨rfl, rfl⟩
    go_wp2_with fail
    refine (H2.out _).mono ?_; rintro e w1 ⟨rfl, rfl⟩
    go_wp2_with fail
    go_ret
    exact ⟨rfl, HB.out⟩
  · have hR := HK0.out rfl
    subst hR
    rw [g1] at H1
    rw [g2] at H2
    rw [g3] at H3
    clear g1 g2 g3 HK0 HK1
    go_enter Try.func66, Try.ntmps66
    go_wp2_with fail
    refine (H1.out _).mono ?_; rintro e w1 ⟨rfl, rfl⟩
    go_wp2_with fail
    refine (H2.out _).mono ?_; rintro e w1 ⟨rfl, rfl⟩
    go_wp2_with fail
    refine (H3.out _).mono ?_; rintro e w1 ⟨rfl, rfl⟩
    go_wp2_with fail
    go_ret
    exact ⟨rfl, HB.out⟩
  · have hR := HK0.out rfl
    subst hR
    clear HK0 HK1
    obtain ⟨u0, u4⟩ := inB_bd g1
    obtain ⟨l0, l4⟩ := inB_bd g2
    obtain ⟨w0, w4⟩ := inB_bd g3
    have hw1 : IntKind.i64.wrap (w - 1) = w - 1 := IntWalk.i64_in _ (by omega)
    rw [g1] at H1
    rw [g2] at H2
    rw [g3] at H3
    clear g1 g2 g3
    go_enter Try.func66, Try.ntmps66
    go_wp2_with fail
    refine (H1.out _).mono ?_; rintro e w1 ⟨rfl, rfl⟩
    go_wp2_with fail
    refine (H2.out _).mono ?_; rintro e w1 ⟨rfl, rfl⟩
    go_wp2_with fail
    refine (H3.out _).mono ?_; rintro e w1 ⟨rfl, rfl⟩
    go_wp2_with fail
    go_ret
    exact ⟨rfl, HB.out⟩
  · have hR := HK0.out rfl
    subst hR
    clear HK0 HK1
    obtain ⟨u0, u4⟩ := inB_bd g1
    obtain ⟨l0, l4⟩ := inB_bd g2
    obtain ⟨w0, w4⟩ := inB_bd g3
    have hw1 : IntKind.i64.wrap (w - 1) = w - 1 := IntWalk.i64_in _ (by omega)
    rw [g1] at H1
    rw [g2] at H2
    rw [g3] at H3
    clear g1 g2 g3
    have p0 : 0 ≤ u * w := Int.mul_nonneg u0 (by omega)
    have p1 : u * w ≤ 4 * w := Int.mul_le_mul_of_nonneg_right u4 (by omega)
    have hw2 : IntKind.i64.wrap (u * w) = u * w := IntWalk.i64_in _ (by omega)
    have hw3 : IntKind.i64.wrap (u * w + l) = u * w + l := IntWalk.i64_in _ (by omega)
    go_enter Try.func66, Try.ntmps66
    go_wp2_with fail
    refine (H1.out _).mono ?_; rintro e w1 ⟨rfl, rfl⟩
    go_wp2_with fail
    refine (H2.out _).mono ?_; rintro e w1 ⟨rfl, rfl⟩
    go_wp2_with fail
    refine (H3.out _).mono ?_; rintro e w1 ⟨rfl, rfl⟩
    go_wp2_with fail
    go_ret
    exact ⟨rfl, HB.out⟩
  · have hR := HK1.out rfl
    clear HK0 HK1
    obtain ⟨u0, u4⟩ := inB_bd g1
    obtain ⟨l0, l4⟩ := inB_bd g2
    obtain ⟨w0, w4⟩ := inB_bd g3
    have hw1 : IntKind.i64.wrap (w - 1) = w - 1 := IntWalk.i64_in _ (by omega)
    rw [g1] at H1
    rw [g2] at H2
    rw [g3] at H3
    clear g1 g2 g3
    have p0 : 0 ≤ u * w := Int.mul_nonneg u0 (by omega)
    have p1 : u * w ≤ 4 * w := Int.mul_le_mul_of_nonneg_right u4 (by omega)
    have hw2 : IntKind.i64.wrap (u * w) = u * w := IntWalk.i64_in _ (by omega)
    have hw3 : IntKind.i64.wrap (u * w + l) = u * w + l := IntWalk.i64_in _ (by omega)
    have HR := Lib.hid hR
    clear hR
    have HQ := Lib.hid (heap_alloc_new W (.cells #[.int .i64 u, .int .i64 l, .int .i64 w, .slice A rs.length c] 26))
    have hlt1 : W.heap.size < (W.alloc (.cells #[.int .i64 u, .int .i64 l, .int .i64 w, .slice A rs.length c] 26)).heap.size := by simp
    have Hb0 := Lib.hid (fun (x : Int × Int) wx => between_any x.1 0 u wx)
    have Hb1 := Lib.hid (fun (x : Int × Int) wx => between_any x.2 0 l wx)
    have Hb2 := Lib.hid (fun wx => between_any (rs.length : Int) 1 10 wx)
    go_enter Try.func66, Try.ntmps66
    go_wp2_with fail
    refine (H1.out _).mono ?_; rintro e w1 ⟨rfl, rfl⟩
    go_wp2_with fail
    refine (H2.out _).mono ?_; rintro e w1 ⟨rfl, rfl⟩
    go_wp2_with fail
    refine (H3.out _).mono ?_; rintro e w1 ⟨rfl, rfl⟩
    go_wp2_with fail
    generalize W.alloc (.cells #[.int .i64 u, .int .i64 l, .int .i64 w, .slice A rs.length c] 26) = w1 at *
    go_loopw [43] (fun i wr => ∃ k : Nat, k ≤ rs.length ∧ i = .int .i64 (k : Int) ∧ (rs.take k).all (rodOk ⟨u, l, w, rs⟩) = true ∧ Below w1.heap.size w1 wr) (fun i _ => rs.length - (intOf i).toNat)
    case atStart => exact ⟨0, Nat.zero_le _, rfl, rfl, Below.refl _ _⟩
    case round =>
      obtain ⟨k, hk, rfl, hal, hbl⟩ := hrel
      have Hal := Lib.hid hal
      have Hbl := Lib.hid hbl
      clear hal c0 c1 c2 c3
      obtain ⟨c0, c1, c2, c3⟩ := four_at ((hbl.block _ hlt1).trans HQ.out)
      have hlt3 := Nat.lt_of_lt_of_le hlt1 hbl.size
      by_cases hlt : k < rs.length
      · have hlt' : (k : Int) < (rs.length : Int) := by omega
        obtain ⟨b, off, hA, hbB, hcc⟩ := rods_at ((H.out.below ((HB.out.trans (hbl.mono (by have := HB.out.size; omega))).mono hB))) (by omega)
        subst hA
        obtain ⟨r0, r1⟩ := hcc k hlt
        have Hn := Lib.hid (fun h => all_no (p := rodOk ⟨u, l, w, rs⟩) hlt h)
        have Hy := Lib.hid (fun h => all_take (p := rodOk ⟨u, l, w, rs⟩) hlt Hal.out h)
        have Hx := Lib.hid (show rodOk ⟨u, l, w, rs⟩ rs[k] = (inB (rs[k]).1 0 u && inB (rs[k]).2 0 l) from rfl)
        have Hc0 := Lib.hid (Hb0.out rs[k])
        have Hc1 := Lib.hid (Hb1.out rs[k])
        generalize rs[k] = x at *
        obtain ⟨x0, x1⟩ := x
        dsimp only at Hc0 Hc1 Hx r0 r1
        clear hcc hbl
        have Hal2 := Lib.hid (Hbl.out.alloc Hbl.out.size (.cells #[.int .i64 x0, .int .i64 x1] 98))
        cases e0 : inB x0 0 u
        · have hno := Hn.out (by rw [Hx.out, e0]; rfl)
          have hRf : R = false := by rw [HR.out]; show (rs.all _ && _) = false; rw [hno]; rfl
          subst hRf
          rw [e0] at Hc0
          clear hno HR Hn Hy Hx e0
          go_wp2_with fail
          refine (Hc0.out _).mono ?_; rintro e w5 ⟨rfl, rfl⟩
          go_wp2_with fail
          go_ret
          exact ⟨rfl, HB.out.trans (Hal2.out.mono HB.out.size)⟩
        · rw [e0] at Hc0
          cases e1 : inB x1 0 l
          · have hno := Hn.out (by rw [Hx.out, e0, e1]; rfl)
            have hRf : R = false := by rw [HR.out]; show (rs.all _ && _) = false; rw [hno]; rfl
            subst hRf
            rw [e1] at Hc1
            clear hno HR Hn Hy Hx e0 e1
            go_wp2_with fail
            refine (Hc0.out _).mono ?_; rintro e w5 ⟨rfl, rfl⟩
            go_wp2_with fail
            refine (Hc1.out _).mono ?_; rintro e w5 ⟨rfl, rfl⟩
            go_wp2_with fail
            go_ret
            exact ⟨rfl, HB.out.trans (Hal2.out.mono HB.out.size)⟩
          · have hyes := Lib.hid (Hy.out (by rw [Hx.out, e0, e1]; rfl))
            rw [e1] at Hc1
            clear Hn Hy Hx e0 e1
            go_wp2_with fail
            refine (Hc0.out _).mono ?_; rintro e w5 ⟨rfl, rfl⟩
            go_wp2_with fail
            refine (Hc1.out _).mono ?_; rintro e w5 ⟨rfl, rfl⟩
            go_wp2_with fail
            go_roundw
            case rel => exact ⟨k + 1, by omega, by go_num, hyes.out, Hal2.out⟩
            case measure => simp [intOf]; omega
      · have hkn : k = rs.length := by omega
        subst hkn
        have hlt' : ¬ (rs.length : Int) < (rs.length : Int) := by omega
        have hRf : R = inB rs.length 1 10 := by
          have h1 := Hal.out
          rw [List.take_length] at h1
          rw [HR.out]; show (rs.all _ && _) = _; rw [h1]; rfl
        subst hRf
        clear HR hbl
        go_wp2_with fail
        refine (Hb2.out _).mono ?_; rintro e w5 ⟨rfl, rfl⟩
        go_wp2_with fail
        go_ret
        exact ⟨rfl, HB.out.trans (Hbl.out.mono HB.out.size)⟩
end Go.Proofs.Ytemcdmjnokpldaa
/- Abaci: ValidAbacus of the reference. -/
namespace Go.Proofs.Ytemcdmjnokpldaa
open Go.RowKit Go.Joins

theorem AbAt.of {W : World} {g : Nat} {u l w : Int} {v : Value} {t : TypeId} (h : W.heap[g]? = some (.cells #[.int .i64 u, .int .i64 l, .int .i64 w, v] t (0, 0))) : AbAt W g u l w v := by
  obtain ⟨h0, h1, h2, h3⟩ := four_at h
  exact ⟨h0, h1, h2, h3⟩
end Go.Proofs.Ytemcdmjnokpldaa
/- Abaci: plain laws of settings. -/
namespace Go.Proofs.Ytemcdmjnokpldaa

def zeroAb : Ab := ⟨0, 0, 0, []⟩
/-- an abacus that shows a value in the plain way, and a code -/
def plainA (a : Ab) (v : Int) : Ab × Int := if leftV a.rods.length v = 0 then (⟨a.u, a.l, a.w, plainRs a.u a.w a.rods.length v⟩, 0) else (zeroAb, 5)
def setA (a : Ab) (v : Int) : Ab × Int := if okAb a then (if inB v 0 1000000000000 then plainA a v else (zeroAb, 2)) else (zeroAb, 1)
def plA (a : Ab) : Ab × Int := if okAb a then plainA a (valR a.w a.rods) else (zeroAb, 1)
def vlC (a : Ab) : Int := if okAb a then 0 else 1
def vlV (a : Ab) : Int := if okAb a then valR a.w a.rods else 0
def plRod (a : Ab) (r : Int × Int) : Bool := decide (shownR a.w r ≤ 9) && (r == plainRodA a.u a.w (shownR a.w r))
def isPl (a : Ab) : Bool := okAb a && a.rods.all (plRod a)

theorem okAb_and {a : Ab} (h : okAb a = true) : kindAb a = true ∧ a.rods.all (rodOk a) = true ∧ 1 ≤ a.rods.length ∧ a.rods.length ≤ 10 := by
  unfold okAb at h
  simp only [Bool.and_eq_true] at h
  obtain ⟨⟨h1, h2⟩, h3⟩ := h
  have := inB_bd h3
  exact ⟨h1, h2, by omega, by omega⟩
theorem okAb_mk {a : Ab} (h1 : kindAb a = true) (h2 : a.rods.all (rodOk a) = true) (h3 : 1 ≤ a.rods.length) (h4 : a.rods.length ≤ 10) : okAb a = true := by
  unfold okAb inB
  rw [h1, h2]
  simp
  omega
theorem rodOk_bd {a : Ab} {r : Int × Int} (h : rodOk a r = true) : 0 ≤ r.1 ∧ r.1 ≤ a.u ∧ 0 ≤ r.2 ∧ r.2 ≤ a.l := by
  unfold rodOk at h
  rw [Bool.and_eq_true] at h
  have := inB_bd h.1; have := inB_bd h.2
  omega
/-- bounds of what a rod shows -/
theorem shown_bd {a : Ab} (hk : kindAb a = true) {r : Int × Int} (h : rodOk a r = true) : 0 ≤ r.1 * a.w ∧ r.1 * a.w ≤ 40 ∧ 0 ≤ shownR a.w r ∧ shownR a.w r ≤ 52 := by
  obtain ⟨h1, h2, h3, h4, h5, h6, h7, h8⟩ := kind_bd hk
  obtain ⟨g1, g2, g3, g4⟩ := rodOk_bd h
  have p0 : 0 ≤ r.1 * a.w := Int.mul_nonneg g1 (by omega)
  have p1 : r.1 * a.w ≤ 4 * a.w := Int.mul_le_mul_of_nonneg_right (by omega) (by omega)
  unfold shownR
  omega
/-- bounds of a value -/
theorem val_bd {a : Ab} (hk : kindAb a = true) : ∀ (rs : List (Int × Int)), rs.all (rodOk a) = true → 0 ≤ valR a.w rs ∧ valR a.w rs + 6 ≤ 6 * (10 : Int) ^ rs.length
  | [], _ => ⟨Int.le_refl 0, by show (0 : Int) + 6 ≤ 6 * 10 ^ 0; decide⟩
  | r :: rs, h => by
    rw [List.all_cons, Bool.and_eq_true] at h
    obtain ⟨i1, i2⟩ := val_bd hk rs h.2
    obtain ⟨_, _, s1, s2⟩ := shown_bd hk h.1
    have e : (10 : Int) ^ (r :: rs).length = 10 ^ rs.length * 10 := by rw [List.length_cons, Int.pow_succ]
    show 0 ≤ 10 * valR a.w rs + shownR a.w r ∧ 10 * valR a.w rs + shownR a.w r + 6 ≤ 6 * (10 : Int) ^ (r :: rs).length
    rw [e]
    generalize (10 : Int) ^ rs.length = T at *
    omega
theorem pow_le10 : ∀ (n : Nat), n ≤ 10 → (10 : Int) ^ n ≤ 10000000000 := by
  intro n h
  have : ∀ m : Fin 11, (10 : Int) ^ m.1 ≤ 10000000000 := by decide
  exact this ⟨n, by omega⟩
theorem val_bd10 {a : Ab} (h : okAb a = true) : ∀ k, 0 ≤ valR a.w (a.rods.drop k) ∧ valR a.w (a.rods.drop k) ≤ 60000000000 := by
  obtain ⟨h1, h2, h3, h4⟩ := okAb_and h
  intro k
  have h5 : (a.rods.drop k).all (rodOk a) = true := by
    rw [List.all_eq_true] at h2 ⊢
    exact fun x hx => h2 x (List.mem_of_mem_drop hx)
  obtain ⟨b1, b2⟩ := val_bd h1 _ h5
  have h6 := pow_le10 (a.rods.drop k).length (by rw [List.length_drop]; omega)
  generalize (10 : Int) ^ (a.rods.drop k).length = T at *
  omega
theorem ok_get {a : Ab} (h : okAb a = true) {k : Nat} (hk : k < a.rods.length) : rodOk a a.rods[k] = true := by
  obtain ⟨_, h2, _⟩ := okAb_and h
  rw [List.all_eq_true] at h2
  exact h2 _ (List.getElem_mem hk)
/-- plain rods: their digits are those of the value -/
theorem plain_back (u w : Int) : ∀ (rs : List (Int × Int)), (∀ r ∈ rs, 0 ≤ shownR w r ∧ shownR w r ≤ 9) → leftV rs.length (valR w rs) = 0 ∧ plainRs u w rs.length (valR w rs) = rs.map (fun r => plainRodA u w (shownR w r))
  | [], _ => ⟨rfl, rfl⟩
  | r :: rs, h => by
    obtain ⟨i1, i2⟩ := plain_back u w rs (fun x hx => h x (List.mem_cons_of_mem _ hx))
    obtain ⟨s1, s2⟩ := h r (List.mem_cons_self ..)
    have e1 : (10 * valR w rs + shownR w r) % 10 = shownR w r := by omega
    have e2 : (10 * valR w rs + shownR w r) / 10 = valR w rs := by omega
    constructor
    · show leftV rs.length ((10 * valR w rs + shownR w r) / 10) = 0
      rw [e2]; exact i1
    · show plainRodA u w ((10 * valR w rs + shownR w r) % 10) :: plainRs u w rs.length ((10 * valR w rs + shownR w r) / 10) = _
      rw [e1, e2, i2]; rfl
theorem plainRs_mem (u w : Int) : ∀ n v r, r ∈ plainRs u w n v → ∃ d, 0 ≤ d ∧ d ≤ 9 ∧ r = plainRodA u w d
  | 0, _, _, h => by cases h
  | n + 1, v, r, h => by
    rcases List.mem_cons.1 h with e | h'
    · exact ⟨v % 10, by omega, by omega, e⟩
    · exact plainRs_mem u w n _ r h'
theorem map_eq_self {α : Type} {f : α → α} : ∀ {l : List α}, l.map f = l ↔ ∀ x ∈ l, f x = x
  | [] => by simp
  | x :: l => by
    rw [List.map_cons, List.cons.injEq, map_eq_self (l := l)]
    simp
/-- a valid abacus is plain where the plain setting of its value is itself -/
theorem isPl_iff {a : Ab} (h : okAb a = true) : isPl a = (decide (leftV a.rods.length (valR a.w a.rods) = 0) && decide (plainRs a.u a.w a.rods.length (valR a.w a.rods) = a.rods)) := by
  have hk := (okAb_and h).1
  have hs : ∀ r ∈ a.rods, 0 ≤ shownR a.w r := fun r hr => by
    have := (okAb_and h).2.1
    rw [List.all_eq_true] at this
    exact (shown_bd hk (this r hr)).2.2.1
  rw [Bool.eq_iff_iff]
  unfold isPl
  rw [h, Bool.true_and, List.all_eq_true, Bool.and_eq_true, decide_eq_true_eq, decide_eq_true_eq]
  constructor
  · intro hp
    have h9 : ∀ r ∈ a.rods, shownR a.w r ≤ 9 ∧ r = plainRodA a.u a.w (shownR a.w r) := fun r hr => by
      have := hp r hr
      unfold plRod at this
      rw [Bool.and_eq_true, decide_eq_true_eq, beq_iff_eq] at this
      exact this
    obtain ⟨e1, e2⟩ := plain_back a.u a.w a.rods (fun r hr => ⟨hs r hr, (h9 r hr).1⟩)
    exact ⟨e1, e2.trans (map_eq_self.2 (fun r hr => (h9 r hr).2.symm))⟩
  · rintro ⟨_, e2⟩ r hr
    rw [← e2] at hr
    obtain ⟨d, d0, d9, rfl⟩ := plainRs_mem _ _ _ _ _ hr
    unfold plRod
    rw [shown_plain, Bool.and_eq_true, decide_eq_true_eq, beq_iff_eq]
    exact ⟨d9, rfl⟩
/-- a plain setting is valid, plain, and has its value -/
theorem plainA_ok {a : Ab} (h : okAb a = true) {v : Int} (hz : leftV a.rods.length v = 0) : okAb (plainA a v).1 = true ∧ isPl (plainA a v).1 = true ∧ valR (plainA a v).1.w (plainA a v).1.rods = v := by
  obtain ⟨h1, h2, h3, h4⟩ := okAb_and h
  have hm := plainRs_mem a.u a.w a.rods.length v
  have hk : kindAb ⟨a.u, a.l, a.w, plainRs a.u a.w a.rods.length v⟩ = true := h1
  have hok : okAb ⟨a.u, a.l, a.w, plainRs a.u a.w a.rods.length v⟩ = true := by
    refine okAb_mk hk ?_ (by rw [plainRs_len]; exact h3) (by rw [plainRs_len]; exact h4)
    rw [List.all_eq_true]
    intro r hr
    obtain ⟨d, d0, d9, rfl⟩ := hm r hr
    exact plain_ok hk d0 d9
  have e : (plainA a v).1 = ⟨a.u, a.l, a.w, plainRs a.u a.w a.rods.length v⟩ := by unfold plainA; rw [if_pos hz]
  rw [e]
  refine ⟨hok, ?_, val_plain _ _ _ _ hz⟩
  unfold isPl
  rw [hok, Bool.true_and, List.all_eq_true]
  intro r hr
  obtain ⟨d, d0, d9, rfl⟩ := hm r hr
  unfold plRod
  rw [shown_plain, Bool.and_eq_true, decide_eq_true_eq, beq_iff_eq]
  exact ⟨d9, rfl⟩
theorem setA_ok {a : Ab} {v : Int} (h : (setA a v).2 = 0) : vlC (setA a v).1 = 0 ∧ vlV (setA a v).1 = v ∧ isPl (setA a v).1 = true := by
  unfold setA at h ⊢
  by_cases h1 : okAb a = true
  · rw [if_pos h1] at h ⊢
    by_cases h2 : inB v 0 1000000000000 = true
    · rw [if_pos h2] at h ⊢
      by_cases h3 : leftV a.rods.length v = 0
      · obtain ⟨g1, g2, g3⟩ := plainA_ok h1 h3
        unfold vlC vlV
        rw [if_pos g1, if_pos g1]
        exact ⟨rfl, g3, g2⟩
      · unfold plainA at h; rw [if_neg h3] at h; exact absurd h (by decide)
    · rw [if_neg h2] at h; exact absurd h (by decide)
  · rw [if_neg h1] at h; exact absurd h (by decide)
theorem plA_ok {a : Ab} (h : (plA a).2 = 0) : vlC a = 0 ∧ vlC (plA a).1 = 0 ∧ vlV (plA a).1 = vlV a ∧ isPl (plA a).1 = true := by
  unfold plA at h ⊢
  by_cases h1 : okAb a = true
  · rw [if_pos h1] at h ⊢
    by_cases h3 : leftV a.rods.length (valR a.w a.rods) = 0
    · obtain ⟨g1, g2, g3⟩ := plainA_ok h1 h3
      unfold vlC vlV
      rw [if_pos g1, if_pos g1, if_pos h1, if_pos h1]
      exact ⟨rfl, rfl, g3, g2⟩
    · unfold plainA at h; rw [if_neg h3] at h; exact absurd h (by decide)
  · rw [if_neg h1] at h; exact absurd h (by decide)
end Go.Proofs.Ytemcdmjnokpldaa
/- Abaci: what a rod shows, the value, both sides. -/
namespace Go.Proofs.Ytemcdmjnokpldaa
open Go.RowKit Go.Joins

set_option maxRecDepth 100000 in
set_option maxHeartbeats 800000 in
theorem shownI_any (B k : Nat) (u l w : Int) (v : Value) (rs : List (Int × Int)) (W : World) (h : Rd W B v rs.length 2 (rodsC rs)) (hB : B ≤ W.heap.size) (hok : okAb ⟨u, l, w, rs⟩ = true) (hk : k < rs.length) : Calls Try.prog 69 #[aggAb u l w v, .int .i64 (k : Int)] W fun e w' => e = .returned (.int .i64 (shownR w rs[k])) ∧ Below W.heap.size W w' := by
  obtain ⟨hk1, hk2, hk3, hk4⟩ := okAb_and hok
  obtain ⟨s1, s2, s3, s4⟩ := shown_bd hk1 (ok_get hok hk)
  have H := Lib.hid h
  obtain ⟨_, A, c, rfl, _⟩ := h
  have hb1 := (Below.refl W.heap.size W).alloc (Nat.le_refl _) (.cells #[.int .i64 u, .int .i64 l, .int .i64 w, .slice A rs.length c] 26)
  have HB := Lib.hid hb1
  obtain ⟨c0, c1, c2, c3⟩ := four_at (heap_alloc_new W (.cells #[.int .i64 u, .int .i64 l, .int .i64 w, .slice A rs.length c] 26))
  obtain ⟨b, off, hA, hbB, hcc⟩ := rods_at (H.out.below (hb1.mono hB)) (by omega)
  subst hA
  obtain ⟨r0, r1⟩ := hcc k hk
  have hlt' : (k : Int) < (rs.length : Int) := by omega
  dsimp only at s1 s2 s3 s4
  have Hx := Lib.hid (show shownR w rs[k] = (rs[k]).1 * w + (rs[k]).2 from rfl)
  rw [Hx.out] at s3 s4
  generalize shownR w rs[k] = R at *
  generalize rs[k] = x at *
  obtain ⟨x0, x1⟩ := x
  dsimp only at r0 r1 s1 s2 s3 s4
  have hw1 : IntKind.i64.wrap (x0 * w) = x0 * w := IntWalk.i64_in _ (by omega)
  have hw2 : IntKind.i64.wrap (x0 * w + x1) = x0 * w + x1 := IntWalk.i64_in _ (by omega)
  clear hb1 hcc hok hk1 hk2 c0 c1
  go_enter Try.func69, Try.ntmps69
  go_wp2_with fail
  generalize W.alloc (.cells #[.int .i64 u, .int .i64 l, .int .i64 w, .slice (some ⟨b, off, none⟩) rs.length c] 26) = w1 at *
  go_quiet (fail)
  go_wp2_with fail
  go_ret
  exact ⟨ret_int Hx.out.symm, by first | exact below_drewN HB.out _ | exact HB.out⟩
set_option maxRecDepth 100000 in
set_option maxHeartbeats 800000 in
theorem valueI_any (B : Nat) (u l w : Int) (v : Value) (rs : List (Int × Int)) (W : World) (h : Rd W B v rs.length 2 (rodsC rs)) (hB : B ≤ W.heap.size) (hok : okAb ⟨u, l, w, rs⟩ = true) : Calls Try.prog 86 #[aggAb u l w v] W fun e w' => e = .returned (.int .i64 (valR w rs)) ∧ Below W.heap.size W w' := by
  obtain ⟨hk1, hk2, hk3, hk4⟩ := okAb_and hok
  have HV := Lib.hid (val_bd10 hok)
  have HS := Lib.hid (fun k (hk : k < rs.length) => shown_bd hk1 (ok_get hok hk))
  have H := Lib.hid h
  obtain ⟨_, A, c, rfl, _⟩ := h
  have hb1 := (Below.refl W.heap.size W).alloc (Nat.le_refl _) (.cells #[.int .i64 u, .int .i64 l, .int .i64 w, .slice A rs.length c] 26)
  have HB := Lib.hid hb1
  have HQ := Lib.hid (heap_alloc_new W (.cells #[.int .i64 u, .int .i64 l, .int .i64 w, .slice A rs.length c] 26))
  have hlt1 : W.heap.size < (W.alloc (.cells #[.int .i64 u, .int .i64 l, .int .i64 w, .slice A rs.length c] 26)).heap.size := by simp
  have HSH := Lib.hid (fun k wx hx hB (hk : k < rs.length) => shownI_any B k u l w (.slice A rs.length c) rs wx hx hB hok hk)
  dsimp only at hk3 hk4 HS HV
  have HR0 := Lib.hid (show valR w (rs.drop 0) = valR w rs by rw [List.drop_zero])
  generalize valR w rs = R at *
  obtain ⟨c0, c1, c2, c3⟩ := four_at HQ.out
  clear hb1 hok hk1 hk2 c0 c1 c2
  go_enter Try.func86, Try.ntmps86
  go_wp2_with fail
  generalize W.alloc (.cells #[.int .i64 u, .int .i64 l, .int .i64 w, .slice A rs.length c] 26) = w1 at *
  clear c3
  go_loopw [3, 4] (fun s i wr => ∃ k : Nat, k ≤ rs.length ∧ i = .int .i64 ((k : Int) - 1) ∧ s = .int .i64 (valR w (rs.drop k)) ∧ Below w1.heap.size w1 wr) (fun _ i _ => (intOf i + 1).toNat)
  case atStart => exact ⟨rs.length, Nat.le_refl _, rfl, by rw [List.drop_length]; rfl, Below.refl _ _⟩
  case round =>
    obtain ⟨k, hk, rfl, rfl, hbl⟩ := hrel
    have Hbl := Lib.hid hbl
    have Hs := Lib.hid hbl.size
    by_cases hk0 : k = 0
    · subst hk0
      have h1 : ¬ (0 : Int) ≤ ((0 : Nat) : Int) - 1 := by omega
      rw [HR0.out]
      clear hbl
      go_wp2_with fail
      go_ret
      exact ⟨rfl, HB.out.trans (Hbl.out.mono HB.out.size)⟩
    · obtain ⟨j, rfl⟩ : ∃ j : Nat, k = j + 1 := ⟨k - 1, by omega⟩
      have hj : j < rs.length := by omega
      have e1 : ((j + 1 : Nat) : Int) - 1 = (j : Int) := by omega
      rw [e1]
      have h1 : (0 : Int) ≤ (j : Int) := by omega
      obtain ⟨b1, b2⟩ := HV.out (j + 1)
      obtain ⟨b3, b4⟩ := HV.out j
      obtain ⟨_, _, s3, s4⟩ := HS.out j hj
      have Hd := Lib.hid (show valR w (rs.drop j) = 10 * valR w (rs.drop (j + 1)) + shownR w rs[j] by rw [List.drop_eq_getElem_cons hj]; rfl)
      have HC := Lib.hid (HSH.out j wr (H.out.below ((HB.out.trans (Hbl.out.mono HB.out.size)).mono hB)) (Nat.le_trans hB (Nat.le_trans HB.out.size Hs.out)) hj)
      obtain ⟨c0, c1, c2, c3⟩ := four_at ((hbl.block _ hlt1).trans HQ.out)
      rw [Hd.out] at b3 b4
      have Hdj := Lib.hid Hd.out.symm
      generalize valR w (rs.drop (j + 1)) = V at *
      generalize shownR w rs[j] = S at *
      clear Hd hbl e1 hk0
      have hw1 : IntKind.i64.wrap (10 * V) = 10 * V := IntWalk.i64_in _ (by omega)
      have hw2 : IntKind.i64.wrap (10 * V + S) = 10 * V + S := IntWalk.i64_in _ (by omega)
      have hw3 : IntKind.i64.wrap ((j : Int) - 1) = (j : Int) - 1 := IntWalk.i64_in _ (by omega)
      go_wp2_with fail
      refine HC.out.mono ?_; rintro e w2 ⟨rfl, hb2⟩
      have Hb2 := Lib.hid (Hbl.out.trans (hb2.mono Hbl.out.size))
      clear hb2
      go_wp2_with fail
      go_roundw
      case rel => exact ⟨j, by omega, rfl, by rw [Hdj.out], Hb2.out⟩
      case measure => first | (simp [intOf]; done) | (simp [intOf]; omega)
set_option maxRecDepth 100000 in
set_option maxHeartbeats 800000 in
theorem l03Rod_any (B q k : Nat) (u l w : Int) (v : Value) (rs : List (Int × Int)) (W : World) (h : AbAt W q u l w v) (hr : Rd W B v rs.length 2 (rodsC rs)) (hok : okAb ⟨u, l, w, rs⟩ = true) (hk : k < rs.length) : Calls Try.prog 138 #[.pointer (some ⟨q, 0, none⟩), .int .i64 (k : Int)] W fun e w' => e = .returned (.int .i64 (shownR w rs[k])) ∧ ∃ n, w' = W.drewN n := by
  obtain ⟨hk1, hk2, hk3, hk4⟩ := okAb_and hok
  obtain ⟨s1, s2, s3, s4⟩ := shown_bd hk1 (ok_get hok hk)
  have H := Lib.hid hr
  obtain ⟨_, A, c, rfl, _⟩ := hr
  obtain ⟨c0, c1, c2, c3⟩ := h
  obtain ⟨b, off, hA, hbB, hcc⟩ := rods_at H.out (by omega)
  subst hA
  obtain ⟨r0, r1⟩ := hcc k hk
  have hlt' : (k : Int) < (rs.length : Int) := by omega
  dsimp only at s1 s2 s3 s4
  have Hx := Lib.hid (show shownR w rs[k] = (rs[k]).1 * w + (rs[k]).2 from rfl)
  rw [Hx.out] at s3 s4
  generalize shownR w rs[k] = R at *
  generalize rs[k] = x at *
  obtain ⟨x0, x1⟩ := x
  dsimp only at r0 r1 s1 s2 s3 s4
  have hw1 : IntKind.i64.wrap (x0 * w) = x0 * w := IntWalk.i64_in _ (by omega)
  have hw2 : IntKind.i64.wrap (x0 * w + x1) = x0 * w + x1 := IntWalk.i64_in _ (by omega)
  clear hcc hok hk1 hk2 c0 c1
  go_enter Try.func138, Try.ntmps138
  go_wp2_with fail
  go_quiet (fail)
  go_wp2_with fail
  go_ret
  exact ⟨ret_int Hx.out.symm, _, rfl⟩
set_option maxRecDepth 100000 in
set_option maxHeartbeats 800000 in
theorem l03Value_any (B q : Nat) (u l w : Int) (v : Value) (rs : List (Int × Int)) (W : World) (h : AbAt W q u l w v) (hr : Rd W B v rs.length 2 (rodsC rs)) (hok : okAb ⟨u, l, w, rs⟩ = true) : Calls Try.prog 137 #[.pointer (some ⟨q, 0, none⟩)] W fun e w' => e = .returned (.int .i64 (valR w rs)) ∧ ∃ n, w' = W.drewN n := by
  obtain ⟨hk1, hk2, hk3, hk4⟩ := okAb_and hok
  have HV := Lib.hid (val_bd10 hok)
  have HS := Lib.hid (fun k (hk : k < rs.length) => shown_bd hk1 (ok_get hok hk))
  have H := Lib.hid hr
  have HA := Lib.hid h
  obtain ⟨_, A, c, rfl, _⟩ := hr
  have HSH := Lib.hid (fun k n (hk : k < rs.length) => l03Rod_any B q k u l w (.slice A rs.length c) rs (W.drewN n) (h.drewN n) (H.out.drewN n) hok hk)
  dsimp only at hk3 hk4 HS HV
  have HR0 := Lib.hid (show valR w (rs.drop 0) = valR w rs by rw [List.drop_zero])
  generalize valR w rs = R at *
  obtain ⟨c0, c1, c2, c3⟩ := h
  clear hok hk1 hk2 c0 c1 c2
  go_enter Try.func137, Try.ntmps137
  go_wp2_with fail
  clear c3
  go_loopw [3, 4] (fun s i wr => ∃ k n : Nat, k ≤ rs.length ∧ i = .int .i64 ((k : Int) - 1) ∧ s = .int .i64 (valR w (rs.drop k)) ∧ wr = W.drewN n) (fun _ i _ => (intOf i + 1).toNat)
  case atStart => exact ⟨rs.length, 0, Nat.le_refl _, rfl, by rw [List.drop_length]; rfl, rfl⟩
  case round =>
    obtain ⟨k, n, hk, rfl, rfl, hwr⟩ := hrel
    have Hw := Lib.hid hwr
    clear hwr
    by_cases hk0 : k = 0
    · subst hk0
      have h1 : ¬ (0 : Int) ≤ ((0 : Nat) : Int) - 1 := by omega
      rw [HR0.out]
      go_wp2_with fail
      go_ret
      exact ⟨rfl, n, Hw.out⟩
    · obtain ⟨j, rfl⟩ : ∃ j : Nat, k = j + 1 := ⟨k - 1, by omega⟩
      have hj : j < rs.length := by omega
      have e1 : ((j + 1 : Nat) : Int) - 1 = (j : Int) := by omega
      rw [e1]
      have h1 : (0 : Int) ≤ (j : Int) := by omega
      obtain ⟨b1, b2⟩ := HV.out (j + 1)
      obtain ⟨b3, b4⟩ := HV.out j
      obtain ⟨_, _, s3, s4⟩ := HS.out j hj
      have Hd := Lib.hid (show valR w (rs.drop j) = 10 * valR w (rs.drop (j + 1)) + shownR w rs[j] by rw [List.drop_eq_getElem_cons hj]; rfl)
      have HC := Lib.hid (HSH.out j n hj)
      rw [← Hw.out] at HC
      rw [Hd.out] at b3 b4
      have Hdj := Lib.hid Hd.out.symm
      generalize valR w (rs.drop (j + 1)) = V at *
      generalize shownR w rs[j] = S at *
      clear Hd e1 hk0
      have hw1 : IntKind.i64.wrap (10 * V) = 10 * V := IntWalk.i64_in _ (by omega)
      have hw2 : IntKind.i64.wrap (10 * V + S) = 10 * V + S := IntWalk.i64_in _ (by omega)
      have hw3 : IntKind.i64.wrap ((j : Int) - 1) = (j : Int) - 1 := IntWalk.i64_in _ (by omega)
      go_wp2_with fail
      refine HC.out.mono ?_; rintro e w2 ⟨rfl, m, rfl⟩
      go_wp2_with fail
      go_roundw
      case rel => exact ⟨j, n + m, by omega, rfl, by rw [Hdj.out], by rw [Hw.out, World.drewN_drewN]⟩
      case measure => first | (simp [intOf]; done) | (simp [intOf]; omega)
end Go.Proofs.Ytemcdmjnokpldaa
/- Abaci: the plain setting of a rod, both sides. -/
namespace Go.Proofs.Ytemcdmjnokpldaa
open Go.RowKit Go.Joins

abbrev aggRd (r : Int × Int) : Value := .agg #[.int .i64 r.1, .int .i64 r.2]
theorem kind_all {a : Ab} (h : kindAb a = true) {d : Int} (d0 : 0 ≤ d) (d9 : d ≤ 9) : 0 ≤ a.u ∧ a.u ≤ 4 ∧ 1 ≤ a.w ∧ a.w ≤ 10 ∧ 0 ≤ d / a.w ∧ d / a.w ≤ 9 ∧ 0 ≤ min a.u (d / a.w) * a.w ∧ min a.u (d / a.w) * a.w ≤ 40 := by
  obtain ⟨h1, h2, h3, h4, h5, h6, h7, h8⟩ := kind_bd h
  have q0 : 0 ≤ d / a.w := Int.ediv_nonneg d0 (by omega)
  have q1 : d / a.w ≤ d := Int.ediv_le_self _ d0
  have p0 : 0 ≤ min a.u (d / a.w) * a.w := Int.mul_nonneg (by omega) (by omega)
  have p1 : min a.u (d / a.w) * a.w ≤ 4 * a.w := Int.mul_le_mul_of_nonneg_right (by omega) (by omega)
  omega
set_option maxRecDepth 100000 in
set_option maxHeartbeats 800000 in
theorem plainRodI_any (u l w d : Int) (v : Value) (rs : List (Int × Int)) (W : World) (hk : kindAb ⟨u, l, w, rs⟩ = true) (d0 : 0 ≤ d) (d9 : d ≤ 9) : Calls Try.prog 70 #[aggAb u l w v, .int .i64 d] W fun e w' => e = .returned (aggRd (plainRodA u w d)) ∧ Below W.heap.size W w' := by
  obtain ⟨u0, u4, w0, w4, q0, q9, p0, p40⟩ := kind_all hk d0 d9
  have Hx := Lib.hid (show plainRodA u w d = (min u (d / w), d - min u (d / w) * w) from rfl)
  dsimp only at u0 u4 w0 w4 q0 q9 p0 p40
  have hb1 := (Below.refl W.heap.size W).alloc (Nat.le_refl _) (.cells #[.int .i64 u, .int .i64 l, .int .i64 w, v] 26)
  have HQ := heap_alloc_new W (.cells #[.int .i64 u, .int .i64 l, .int .i64 w, v] 26)
  have hz1 : (W.alloc (.cells #[.int .i64 u, .int .i64 l, .int .i64 w, v] 26)).heap.size = W.heap.size + 1 := by simp
  go_enter Try.func70, Try.ntmps70
  go_wp2_with fail
  generalize W.alloc (.cells #[.int .i64 u, .int .i64 l, .int .i64 w, v] 26) = w1 at *
  have hb2 := (Below.refl w1.heap.size w1).alloc (Nat.le_refl _) (.cells #[.int .i64 0, .int .i64 0] 98)
  obtain ⟨p0', p1', p2', p3'⟩ := blk2 (heap_alloc_new w1 (.cells #[.int .i64 0, .int .i64 0] 98))
  obtain ⟨c0, c1, c2, c3⟩ := four_at ((hb2.block _ (by omega)).trans HQ)
  have HD := Lib.hid (fun n a b => res2_post (w := w1) (x := .int .i64 0) (y := .int .i64 0) (t := 98) (below_drewN (Below.refl _ _) n) a b)
  rw [hz1] at p0' p1' p2' p3' HD
  have HB := Lib.hid hb1
  have hwz : ¬ w = 0 := by omega
  have ht : d.tdiv w = d / w := Int.tdiv_eq_ediv_of_nonneg d0
  have hw1 : IntKind.i64.wrap (d / w) = d / w := IntWalk.i64_in _ (by omega)
  have hw2 : IntKind.i64.wrap (min u (d / w) * w) = min u (d / w) * w := IntWalk.i64_in _ (by omega)
  have hw3 : IntKind.i64.wrap (d - min u (d / w) * w) = d - min u (d / w) * w := IntWalk.i64_in _ (by omega)
  have hmin : (if d / w < u then d / w else u) = min u (d / w) := by split <;> omega
  have hmin2 : (if u < d / w then u else d / w) = min u (d / w) := by split <;> omega
  clear HQ hb1 hb2 c1 c3
  generalize w1.alloc (.cells #[.int .i64 0, .int .i64 0] 98) = w2 at *
  go_quiet (fail)
  go_wp2_with fail
  obtain ⟨k0, k1, hbz⟩ := HD.out nq (.int .i64 (min u (d / w))) (.int .i64 (d - min u (d / w) * w))
  refine bodyPost_ret (v := .agg #[.int .i64 (min u (d / w)), .int .i64 (d - min u (d / w) * w)]) (by simp [results, Try.results70, go_sem, k0, k1]) rfl ?_
  exact ⟨by rw [Hx.out], HB.out.trans (hbz.mono (by omega))⟩
theorem l00Min_any (a b : Int) (w : World) : Calls Try.prog 159 #[.int .i64 a, .int .i64 b] w fun e w' => e = .returned (.int .i64 (min a b)) ∧ w' = w := by
  by_cases h : a < b
  · have e : min a b = a := by omega
    rw [e]
    go_enter Try.func159, Try.ntmps159
    go_wp2_with fail
    go_ret
    exact ⟨rfl, rfl⟩
  · have e : min a b = b := by omega
    rw [e]
    go_enter Try.func159, Try.ntmps159
    go_wp2_with fail
    go_ret
    exact ⟨rfl, rfl⟩
set_option maxRecDepth 100000 in
set_option maxHeartbeats 800000 in
theorem l03Digit_any (q : Nat) (u l w d : Int) (v : Value) (rs : List (Int × Int)) (W : World) (h : AbAt W q u l w v) (hk : kindAb ⟨u, l, w, rs⟩ = true) (d0 : 0 ≤ d) (d9 : d ≤ 9) : Calls Try.prog 139 #[.pointer (some ⟨q, 0, none⟩), .int .i64 d] W fun e w' => e = .returned (aggRd (plainRodA u w d)) ∧ Below W.heap.size W w' := by
  obtain ⟨u0, u4, w0, w4, q0, q9, p0, p40⟩ := kind_all hk d0 d9
  have Hx := Lib.hid (show plainRodA u w d = (min u (d / w), d - min u (d / w) * w) from rfl)
  dsimp only at u0 u4 w0 w4 q0 q9 p0 p40
  have hqz : q < W.heap.size := World.block_lt_of_cell? W _ h.c0
  have hb2 := (Below.refl W.heap.size W).alloc (Nat.le_refl _) (.cells #[.int .i64 0, .int .i64 0] 98)
  obtain ⟨p0', p1', p2', p3'⟩ := blk2 (heap_alloc_new W (.cells #[.int .i64 0, .int .i64 0] 98))
  obtain ⟨c0, c1, c2, c3⟩ := h.below hqz hb2
  have HD := Lib.hid (fun n a b => res2_post (w := W) (x := .int .i64 0) (y := .int .i64 0) (t := 98) (below_drewN (Below.refl _ _) n) a b)
  have HM := Lib.hid (fun wx => l00Min_any u (d / w) wx)
  have hwz : ¬ w = 0 := by omega
  have ht : d.tdiv w = d / w := Int.tdiv_eq_ediv_of_nonneg d0
  have hw1 : IntKind.i64.wrap (d / w) = d / w := IntWalk.i64_in _ (by omega)
  generalize min u (d / w) = m at *
  have hw2 : IntKind.i64.wrap (m * w) = m * w := IntWalk.i64_in _ (by omega)
  have hw3 : IntKind.i64.wrap (d - m * w) = d - m * w := IntWalk.i64_in _ (by omega)
  clear hb2 c1 c3 h
  go_enter Try.func139, Try.ntmps139
  go_wp2_with fail
  generalize W.alloc (.cells #[.int .i64 0, .int .i64 0] 98) = w2 at *
  go_quiet ((go_at_call 159; exact Calls.quiet_of_same (HM.out _)))
  go_wp2_with fail
  obtain ⟨k0, k1, hbz⟩ := HD.out nq (.int .i64 m) (.int .i64 (d - m * w))
  refine bodyPost_ret (v := .agg #[.int .i64 m, .int .i64 (d - m * w)]) (by simp [results, Try.results139, go_sem, k0, k1]) rfl ?_
  exact ⟨by rw [Hx.out], hbz⟩
end Go.Proofs.Ytemcdmjnokpldaa
/- Abaci: a copy of the rods, both sides. -/
namespace Go.Proofs.Ytemcdmjnokpldaa
open Go.RowKit Go.Joins

/-- a cell of an own row is written -/
theorem own_put {w : World} {base : Nat} {e : TypeId} {sz g cap n : Nat} {xs : List Value} (h : w.ownsRow base e sz (.slice (some ⟨g, 0, none⟩) n cap) n xs) (j : Nat) (hj : j < xs.length) (u : Value) :
    (w.setCell ⟨g, j, none⟩ u).ownsRow base e sz (.slice (some ⟨g, 0, none⟩) n cap) n (xs.set j u) ∧ w.cell? ⟨g, j, none⟩ = some xs[j] ∧ w.frozen? ⟨g, j, none⟩ = false := by
  rcases h.2 with ⟨e0, _⟩ | ⟨g', cap', cur, e0, hb, hg, hn, hm, hs, ht⟩
  · cases e0
  · injection e0 with e1 _ e3
    injection e1 with e1
    injection e1 with e1
    subst e1; subst e3
    have hl := h.1
    have hjc : j < cur.size := by rw [hs]; exact Nat.lt_of_lt_of_le (hl ▸ hj) (Nat.mul_le_mul_right _ hn)
    have hjx : xs[j] = cur[j] := by
      have : xs[j]? = (cur.toList.take (n * sz))[j]? := by rw [ht]
      rw [List.getElem?_eq_getElem hj, List.getElem?_take, if_pos (hl ▸ hj), Array.getElem?_toList, Array.getElem?_eq_getElem hjc] at this
      injection this
    refine ⟨⟨by rw [List.length_set]; exact hl, .inr ⟨g, cap, cur.setIfInBounds j u, rfl, hb, heap_setCell_same w g j _ _ u hg, hn, hm, by rw [Array.size_setIfInBounds]; exact hs, ?_⟩⟩, ?_, frozen_of_row w g j _ _ hg⟩
    · rw [Array.toList_setIfInBounds, List.take_set, ht]
    · rw [hjx, cell_of_row w g j cur _ (0, 0) hg]
      exact Array.getElem?_eq_getElem hjc
theorem infoRod : (Try.prog.info? 98).map (fun i => (i.zero, i.size, i.bytes)) = some (some (.agg #[.int .i64 0, .int .i64 0]), 2, 16) := by kernel_rfl
theorem rodsC_one (rs : List (Int × Int)) : ∀ u ∈ rodsC rs, u.oneCell' = true := by
  intro u hu
  obtain ⟨r, _, hr⟩ := List.mem_flatMap.1 hu
  rcases List.mem_cons.1 hr with rfl | hr
  · rfl
  · rcases List.mem_cons.1 hr with rfl | hr
    · rfl
    · cases hr
/-- block p: an abacus; block r: a result that is not there yet -/
structure Bx2 (W wr : World) (p r : Nat) (a b c d : Value) : Prop where
  box : wr.heap[p]? = some (.cells #[a, b, c, d] 26 (0, 0))
  res : wr.heap[r]? = some (.cells #[.int .i64 0, .int .i64 0, .int .i64 0, .slice none 0 0] 26 (0, 0))
  bel : Below W.heap.size W wr
  pr : p ≠ r
  lp : W.heap.size ≤ p
  lr : W.heap.size ≤ r
abbrev objZ : Obj := .cells #[.int .i64 0, .int .i64 0, .int .i64 0, .slice none 0 0] 26
theorem size_alloc1 (W : World) (o : Obj) : (W.alloc o).heap.size = W.heap.size + 1 := by simp
/-- two blocks one behind the other -/
theorem two_blocks (W : World) (x y : Array Value) (t s : TypeId) : ((W.alloc (.cells x t)).alloc (.cells y s)).heap[W.heap.size]? = some (.cells x t (0, 0)) ∧ ((W.alloc (.cells x t)).alloc (.cells y s)).heap[W.heap.size + 1]? = some (.cells y s (0, 0)) ∧ Below W.heap.size W ((W.alloc (.cells x t)).alloc (.cells y s)) := by
  have h1 := (Below.refl W.heap.size W).alloc (Nat.le_refl _) (.cells x t)
  have hz := size_alloc1 W (.cells x t)
  have h2 := (Below.refl (W.alloc (.cells x t)).heap.size (W.alloc (.cells x t))).alloc (Nat.le_refl _) (.cells y s)
  have h3 := heap_alloc_new (W.alloc (.cells x t)) (.cells y s)
  rw [hz] at h3
  exact ⟨(h2.block _ (by omega)).trans (heap_alloc_new W _), h3, h1.trans (h2.mono h1.size)⟩
theorem Bx2.made (W : World) (a b c d : Value) : Bx2 W ((W.alloc (.cells #[a, b, c, d] 26)).alloc objZ) W.heap.size (W.heap.size + 1) a b c d := by
  obtain ⟨h1, h2, h3⟩ := two_blocks W #[a, b, c, d] #[.int .i64 0, .int .i64 0, .int .i64 0, .slice none 0 0] 26 26
  exact ⟨h1, h2, h3, by omega, by omega, by omega⟩
theorem Bx2.made' (W : World) (a b c d : Value) : Bx2 W ((W.alloc objZ).alloc (.cells #[a, b, c, d] 26)) (W.heap.size + 1) W.heap.size a b c d := by
  obtain ⟨h1, h2, h3⟩ := two_blocks W #[.int .i64 0, .int .i64 0, .int .i64 0, .slice none 0 0] #[a, b, c, d] 26 26
  exact ⟨h2, h1, h3, by omega, by omega, by omega⟩
section
variable {W wr wx : World} {p r : Nat} {a b c d : Value}
theorem Bx2.grown {o : Option Nat} (h : Bx2 W wr p r a b c d) (hg : wr.grownBy wx o) (hp : o ≠ some p) (hr : o ≠ some r) (hw : ∀ x, o = some x → W.heap.size ≤ x) : Bx2 W wx p r a b c d :=
  ⟨(hg.block _ (blk_ltN h.box) (fun e => hp e.symm)).trans h.box, (hg.block _ (blk_ltN h.res) (fun e => hr e.symm)).trans h.res, h.bel.grown hg h.bel.size hw, h.pr, h.lp, h.lr⟩
theorem Bx2.below (h : Bx2 W wr p r a b c d) (hb : Below wr.heap.size wr wx) : Bx2 W wx p r a b c d := h.grown (grown_of_below hb none) (by simp) (by simp) (fun x hx => by cases hx)
theorem Bx2.set3 (h : Bx2 W wr p r a b c d) (d' : Value) : Bx2 W (wr.setCell ⟨p, 3, none⟩ d') p r a b c d' :=
  ⟨heap_setCell_same wr p 3 _ _ d' h.box, (Below.heap_setCell wr ⟨p, 3, none⟩ d' _ (fun e => h.pr e.symm)).trans h.res, h.bel.setCell (p := ⟨p, 3, none⟩) h.lp _, h.pr, h.lp, h.lr⟩
theorem Bx2.at {u l w : Int} {v : Value} (h : Bx2 W wr p r (.int .i64 u) (.int .i64 l) (.int .i64 w) v) : AbAt wr p u l w v := AbAt.of h.box
/-- the result is written -/
theorem Bx2.done (h : Bx2 W wr p r a b c d) (a' b' c' d' : Value) :
    ((put4 wr r a' b' c' d').cell? ⟨r, 0, none⟩ = some a' ∧ (put4 wr r a' b' c' d').cell? ⟨r, 1, none⟩ = some b' ∧ (put4 wr r a' b' c' d').cell? ⟨r, 2, none⟩ = some c' ∧ (put4 wr r a' b' c' d').cell? ⟨r, 3, none⟩ = some d') ∧
    Below W.heap.size W (put4 wr r a' b' c' d') := by
  have g := heap_setCell_same _ r 3 _ _ d' (heap_setCell_same _ r 2 _ _ c' (heap_setCell_same _ r 1 _ _ b' (heap_setCell_same wr r 0 _ _ a' h.res)))
  refine ⟨(blk4 g).1, ?_⟩
  exact (((h.bel.setCell (p := ⟨r, 0, none⟩) h.lr a').setCell (p := ⟨r, 1, none⟩) h.lr b').setCell (p := ⟨r, 2, none⟩) h.lr c').setCell (p := ⟨r, 3, none⟩) h.lr d'
end
theorem put4_own {w : World} {g base n sz : Nat} {e : TypeId} {v : Value} {xs : List Value} (h : w.ownsRow base e sz v n xs) (hg : g < base) (a b c d : Value) : (put4 w g a b c d).ownsRow base e sz v n xs :=
  ownsRow_setCell_below (ownsRow_setCell_below (ownsRow_setCell_below (ownsRow_setCell_below h (a := ⟨g, 0, none⟩) hg a) (a := ⟨g, 1, none⟩) hg b) (a := ⟨g, 2, none⟩) hg c) (a := ⟨g, 3, none⟩) hg d
/-- an abacus with a row of rods of its own -/
def RetOw (W : World) (u l w : Int) (n : Nat) (cs : List Value) (e : Ending) (w' : World) : Prop := ∃ g cap, e = .returned (aggAb u l w (.slice (some ⟨g, 0, none⟩) n cap)) ∧ w'.ownsRow W.heap.size 98 2 (.slice (some ⟨g, 0, none⟩) n cap) n cs ∧ Below W.heap.size W w'
set_option maxRecDepth 100000 in
set_option maxHeartbeats 1600000 in
theorem withRods_any (B n : Nat) (u l w : Int) (v v2 : Value) (cs : List Value) (W : World) (h : Rd W B v2 n 2 cs) (hB : B ≤ W.heap.size) (h0 : 0 < n) (hm : n ≤ 1048576) (h1 : ∀ u ∈ cs, u.oneCell' = true) : Calls Try.prog 68 #[aggAb u l w v, v2] W (RetOw W u l w n cs) := by
  have hl2 := Lib.hid h.1
  have Hone := Lib.hid h1
  obtain ⟨_, A, c, rfl, hc⟩ := h
  obtain ⟨b, off, rfl, hbB, hcc⟩ := hc (by omega)
  have HX := Lib.hid (Bx2.made W (.int .i64 u) (.int .i64 l) (.int .i64 w) v)
  have Hcc := Lib.hid hcc
  clear hc hcc h1
  go_enter Try.func68, Try.ntmps68
  go_upto_region 1 with (fail)
  have hz2 : ((W.alloc (.cells #[.int .i64 u, .int .i64 l, .int .i64 w, v] 26)).alloc (.cells #[.int .i64 0, .int .i64 0, .int .i64 0, .slice none 0 0] 26)).heap.size = W.heap.size + 1 + 1 := by simp
  generalize (W.alloc (.cells #[.int .i64 u, .int .i64 l, .int .i64 w, v] 26)).alloc (.cells #[.int .i64 0, .int .i64 0, .int .i64 0, .slice none 0 0] 26) = w2 at *
  have hbm := (Below.refl w2.heap.size w2).alloc (Nat.le_refl _) (.cells #[] 98)
  have ho0 := World.ownsRow_made (base := w2.heap.size) (e := 98) (size := 2) w2 #[] 0 (Nat.le_refl _) (by simp [maxLen]) rfl
  have HX3 := Lib.hid (HX.out.below hbm)
  have Hc3 := Lib.hid (fun (i : Nat) (x : Value) (hx : cs[i]? = some x) => ((HX3.out.bel.mono hB).cell (p := ⟨b, off + i, none⟩) hbB).trans (Hcc.out i x hx))
  rw [hz2] at ho0
  have HO := Lib.hid ho0
  clear hbm ho0 Hcc HX
  have hz3 : W.heap.size + 1 + 1 ≤ (w2.alloc (.cells #[] 98)).heap.size := by simp; omega
  go_upto_region 2 with (at_builtin; refine wpList_apr 24 98 _ 2 16 Try.underlying24 infoRod rfl (by omega) _ _ rfl rfl (W.heap.size + 1 + 1) _ 0 _ rfl HO.out b off n c cs rfl hl2.out Hc3.out Hone.out (by simp [maxLen]; omega) (by omega) hz3 ?_; intro v7 w7 hown7 hg7; rw [Nat.zero_add, List.nil_append] at hown7; obtain ⟨g7, c7, rfl⟩ := ownsRow_form hown7 h0; have HX7 := Lib.hid (HX3.out.grown (o := some (W.heap.size + 1 + 1)) hg7 (by simp; omega) (by simp) (fun x hx => by cases hx; omega)); have HO7 := Lib.hid hown7; clear hown7 hg7 HX3 Hc3 HO; obtain ⟨⟨q0, q1, q2, q3⟩, f0, f1, f2, f3⟩ := blk4 HX7.out.box)
  have HX8 := Lib.hid (HX7.out.set3 (.slice (some ⟨g7, 0, none⟩) n c7))
  have HO8 := Lib.hid (ownsRow_setCell_below HO7.out (a := ⟨W.heap.size, 3, none⟩) (show W.heap.size < W.heap.size + 1 + 1 by omega) (.slice (some ⟨g7, 0, none⟩) n c7))
  clear q0 q1 q2 q3 f0 f1 f2 f3 HX7 HO7
  generalize w7.setCell ⟨W.heap.size, 3, none⟩ (.slice (some ⟨g7, 0, none⟩) n c7) = w8 at *
  obtain ⟨⟨q0, q1, q2, q3⟩, _⟩ := blk4 HX8.out.box
  obtain ⟨⟨p0, p1, p2, p3⟩, f0, f1, f2, f3⟩ := blk4 HX8.out.res
  have HD := Lib.hid (HX8.out.done (.int .i64 u) (.int .i64 l) (.int .i64 w) (.slice (some ⟨g7, 0, none⟩) n c7))
  have HP := Lib.hid (put4_own HO8.out (show W.heap.size + 1 < W.heap.size + 1 + 1 by omega) (.int .i64 u) (.int .i64 l) (.int .i64 w) (.slice (some ⟨g7, 0, none⟩) n c7))
  go_wp2_with fail
  obtain ⟨⟨k0, k1, k2, k3⟩, hbz⟩ := HD.out
  refine bodyPost_ret (v := aggAb u l w (.slice (some ⟨g7, 0, none⟩) n c7)) (by simp [results, Try.results68, go_sem, k0, k1, k2, k3]) rfl ?_
  exact ⟨g7, c7, rfl, ownsRow_le HP.out (by omega), hbz⟩
set_option maxRecDepth 100000 in
set_option maxHeartbeats 1600000 in
theorem l03Own_any (B q n : Nat) (u l w : Int) (v : Value) (cs : List Value) (W : World) (ha : AbAt W q u l w v) (h : Rd W B v n 2 cs) (hB : B ≤ W.heap.size) (h0 : 0 < n) (hm : n ≤ 1048576) (h1 : ∀ u ∈ cs, u.oneCell' = true) : Calls Try.prog 74 #[.pointer (some ⟨q, 0, none⟩)] W (RetOw W u l w n cs) := by
  have hl2 := Lib.hid h.1
  have Hone := Lib.hid h1
  obtain ⟨_, A, c, rfl, hc⟩ := h
  obtain ⟨b, off, rfl, hbB, hcc⟩ := hc (by omega)
  have Hcc := Lib.hid hcc
  have HA := Lib.hid ha
  have hqz : q < W.heap.size := World.block_lt_of_cell? W _ ha.c0
  obtain ⟨a0, a1, a2, a3⟩ := ha.below hqz ((Below.refl W.heap.size W).alloc (Nat.le_refl _) objZ)
  have HX := Lib.hid (Bx2.made' W (.int .i64 u) (.int .i64 l) (.int .i64 w) (.slice (some ⟨b, off, none⟩) n c))
  clear hc hcc h1 ha
  go_enter Try.func74, Try.ntmps74
  go_upto_region 2 with (fail)
  have hz2 : ((W.alloc objZ).alloc (.cells #[.int .i64 u, .int .i64 l, .int .i64 w, .slice (some ⟨b, off, none⟩) n c] 26)).heap.size = W.heap.size + 1 + 1 := by simp
  generalize (W.alloc objZ).alloc (.cells #[.int .i64 u, .int .i64 l, .int .i64 w, .slice (some ⟨b, off, none⟩) n c] 26) = w2 at *
  have hbm := (Below.refl w2.heap.size w2).alloc (Nat.le_refl _) (.cells #[] 98)
  have ho0 := World.ownsRow_made (base := w2.heap.size) (e := 98) (size := 2) w2 #[] 0 (Nat.le_refl _) (by simp [maxLen]) rfl
  have HX3 := Lib.hid (HX.out.below hbm)
  have Hc3 := Lib.hid (fun (i : Nat) (x : Value) (hx : cs[i]? = some x) => ((HX3.out.bel.mono hB).cell (p := ⟨b, off + i, none⟩) hbB).trans (Hcc.out i x hx))
  have hqa := HA.out.below hqz HX3.out.bel
  rw [hz2] at ho0
  have HO := Lib.hid ho0
  clear a0 a1 a2 a3 hbm ho0 Hcc HX HA
  obtain ⟨a0, a1, a2, a3⟩ := hqa
  have hz3 : W.heap.size + 1 + 1 ≤ (w2.alloc (.cells #[] 98)).heap.size := by simp; omega
  go_upto_region 3 with (at_builtin; refine wpList_apr 24 98 _ 2 16 Try.underlying24 infoRod rfl (by omega) _ _ rfl rfl (W.heap.size + 1 + 1) _ 0 _ rfl HO.out b off n c cs rfl hl2.out Hc3.out Hone.out (by simp [maxLen]; omega) (by omega) hz3 ?_; intro v7 w7 hown7 hg7; rw [Nat.zero_add, List.nil_append] at hown7; obtain ⟨g7, c7, rfl⟩ := ownsRow_form hown7 h0; have HX7 := Lib.hid (HX3.out.grown (o := some (W.heap.size + 1 + 1)) hg7 (by simp) (by simp; omega) (fun x hx => by cases hx; omega)); have HO7 := Lib.hid hown7; clear hown7 hg7 HX3 Hc3 HO a0 a1 a2 a3; obtain ⟨⟨q0, q1, q2, q3⟩, f0, f1, f2, f3⟩ := blk4 HX7.out.box)
  have HX8 := Lib.hid (HX7.out.set3 (.slice (some ⟨g7, 0, none⟩) n c7))
  have HO8 := Lib.hid (ownsRow_setCell_below HO7.out (a := ⟨W.heap.size + 1, 3, none⟩) (show W.heap.size + 1 < W.heap.size + 1 + 1 by omega) (.slice (some ⟨g7, 0, none⟩) n c7))
  clear q0 q1 q2 q3 f0 f1 f2 f3 HX7 HO7
  generalize w7.setCell ⟨W.heap.size + 1, 3, none⟩ (.slice (some ⟨g7, 0, none⟩) n c7) = w8 at *
  obtain ⟨⟨q0, q1, q2, q3⟩, _⟩ := blk4 HX8.out.box
  obtain ⟨⟨p0, p1, p2, p3⟩, f0, f1, f2, f3⟩ := blk4 HX8.out.res
  have HD := Lib.hid (HX8.out.done (.int .i64 u) (.int .i64 l) (.int .i64 w) (.slice (some ⟨g7, 0, none⟩) n c7))
  have HP := Lib.hid (put4_own HO8.out (show W.heap.size < W.heap.size + 1 + 1 by omega) (.int .i64 u) (.int .i64 l) (.int .i64 w) (.slice (some ⟨g7, 0, none⟩) n c7))
  go_wp2_with fail
  obtain ⟨⟨k0, k1, k2, k3⟩, hbz⟩ := HD.out
  refine bodyPost_ret (v := aggAb u l w (.slice (some ⟨g7, 0, none⟩) n c7)) (by simp [results, Try.results74, go_sem, k0, k1, k2, k3]) rfl ?_
  exact ⟨g7, c7, rfl, ownsRow_le HP.out (by omega), hbz⟩
end Go.Proofs.Ytemcdmjnokpldaa
/- Abaci: the plain setting, impl. -/
namespace Go.Proofs.Ytemcdmjnokpldaa
open Go.RowKit Go.Joins

theorem leftV_succ : ∀ (n : Nat) (v : Int), leftV (n + 1) v = leftV n v / 10
  | 0, _ => rfl
  | n + 1, v => leftV_succ n (v / 10)
theorem plainRs_succ (u w : Int) : ∀ (n : Nat) (v : Int), plainRs u w (n + 1) v = plainRs u w n v ++ [plainRodA u w (leftV n v % 10)]
  | 0, _ => rfl
  | n + 1, v => by
    show plainRodA u w (v % 10) :: plainRs u w (n + 1) (v / 10) = plainRodA u w (v % 10) :: (plainRs u w n (v / 10) ++ _)
    rw [plainRs_succ u w n (v / 10)]; rfl
theorem leftV_bd : ∀ (n : Nat) (v : Int), 0 ≤ v → 0 ≤ leftV n v ∧ leftV n v ≤ v
  | 0, _, h => ⟨h, Int.le_refl _⟩
  | n + 1, v, h => by
    have := leftV_bd n (v / 10) (by omega)
    show 0 ≤ leftV n (v / 10) ∧ leftV n (v / 10) ≤ v
    omega
theorem rodsC_set : ∀ (rs : List (Int × Int)) (k : Nat) (a b : Int), ((rodsC rs).set (k * 2) (.int .i64 a)).set (k * 2 + 1) (.int .i64 b) = rodsC (rs.set k (a, b))
  | [], k, a, b => rfl
  | r :: rs, 0, a, b => rfl
  | r :: rs, k + 1, a, b => by
    have e : rodsC (r :: rs) = .int .i64 r.1 :: .int .i64 r.2 :: rodsC rs := rfl
    rw [e, show (k + 1) * 2 = k * 2 + 1 + 1 by omega]
    show .int .i64 r.1 :: .int .i64 r.2 :: ((rodsC rs).set (k * 2) (.int .i64 a)).set (k * 2 + 1) (.int .i64 b) = _
    rw [rodsC_set rs k a b]; rfl
theorem set_mid {α : Type} (l m : List α) (k : Nat) (hk : k = l.length) (hm : 0 < m.length) (x : α) : (l ++ m).set k x = l ++ [x] ++ m.drop 1 := by
  subst hk
  cases m with
  | nil => simp at hm
  | cons y m => simp
/-- while rods are set -/
structure PlAt (W wr : World) (p r q g cap n : Nat) (u l w : Int) (v : Value) (cur : List (Int × Int)) : Prop where
  a : AbAt wr p u l w v
  res : wr.heap[r]? = some (.cells #[.int .i64 0, .int .i64 0, .int .i64 0, .slice none 0 0] 26 (0, 0))
  out : wr.heap[q]? = some (.cells #[.int .i64 u, .int .i64 l, .int .i64 w, .slice (some ⟨g, 0, none⟩) n cap] 26 (0, 0))
  row : wr.ownsRow W.heap.size 98 2 (.slice (some ⟨g, 0, none⟩) n cap) n (rodsC cur)
  bel : Below W.heap.size W wr
  len : cur.length = n
  pg : p ≠ g
  rg : r ≠ g
  qg : q ≠ g
  rq : r ≠ q
  lr : W.heap.size ≤ r
section
variable {W wr wx : World} {p r q g cap n : Nat} {u l w : Int} {v : Value} {cur : List (Int × Int)}
theorem PlAt.below (h : PlAt W wr p r q g cap n u l w v cur) (hb : Below wr.heap.size wr wx) : PlAt W wx p r q g cap n u l w v cur :=
  ⟨h.a.below (World.block_lt_of_cell? wr _ h.a.c0) hb, (hb.block _ (blk_ltN h.res)).trans h.res, (hb.block _ (blk_ltN h.out)).trans h.out, own_below h.row hb, h.bel.trans (hb.mono h.bel.size), h.len, h.pg, h.rg, h.qg, h.rq, h.lr⟩
theorem AbAt.setOther {w0 : World} {q : Nat} {u l w : Int} {v : Value} (h : AbAt w0 q u l w v) {g i : Nat} (hg : q ≠ g) (x : Value) : AbAt (w0.setCell ⟨g, i, none⟩ x) q u l w v := by
  have hb : (w0.setCell ⟨g, i, none⟩ x).heap[q]? = w0.heap[q]? := by
    show (w0.heap.modify g _)[q]? = _
    rw [Array.getElem?_modify, if_neg (fun e => hg e.symm)]
  have hc : ∀ j, (w0.setCell ⟨g, i, none⟩ x).cell? ⟨q, j, none⟩ = w0.cell? ⟨q, j, none⟩ := fun j => World.cell?_of_block hb
  exact ⟨(hc 0).trans h.c0, (hc 1).trans h.c1, (hc 2).trans h.c2, (hc 3).trans h.c3⟩
theorem blk_setOther {w0 : World} {q g i : Nat} {o : Obj} (h : w0.heap[q]? = some o) (hg : q ≠ g) (x : Value) : (w0.setCell ⟨g, i, none⟩ x).heap[q]? = some o := by
  show (w0.heap.modify g _)[q]? = _
  rw [Array.getElem?_modify, if_neg (fun e => hg e.symm)]; exact h
/-- ahead of a store to a rod -/
theorem PlAt.pre (h : PlAt W wr p r q g cap n u l w v cur) {k : Nat} (hk : k < n) : (∃ x y, wr.cell? ⟨g, k * 2, none⟩ = some x ∧ wr.cell? ⟨g, k * 2 + 1, none⟩ = some y) ∧ wr.frozen? ⟨g, k * 2, none⟩ = false ∧ wr.frozen? ⟨g, k * 2 + 1, none⟩ = false := by
  have hl := rodsC_len cur
  have hcl := h.len
  obtain ⟨_, a1, a2⟩ := own_put h.row (k * 2) (by omega) undef
  obtain ⟨_, b1, b2⟩ := own_put h.row (k * 2 + 1) (by omega) undef
  exact ⟨⟨_, _, a1, b1⟩, a2, b2⟩
/-- a rod is set -/
theorem PlAt.set (h : PlAt W wr p r q g cap n u l w v cur) {k : Nat} (hk : k < n) (a b : Int) : PlAt W ((wr.setCell ⟨g, k * 2, none⟩ (.int .i64 a)).setCell ⟨g, k * 2 + 1, none⟩ (.int .i64 b)) p r q g cap n u l w v (cur.set k (a, b)) := by
  have hl := rodsC_len cur
  have hcl := h.len
  have h1 := (own_put h.row (k * 2) (by omega) (.int .i64 a)).1
  have h2 := (own_put h1 (k * 2 + 1) (by rw [List.length_set]; omega) (.int .i64 b)).1
  rw [rodsC_set] at h2
  have hgl := (h.row.lt g rfl).1
  exact ⟨(h.a.setOther h.pg _).setOther h.pg _, blk_setOther (blk_setOther h.res h.rg _) h.rg _, blk_setOther (blk_setOther h.out h.qg _) h.qg _, h2, (h.bel.setCell (p := ⟨g, k * 2, none⟩) hgl _).setCell (p := ⟨g, k * 2 + 1, none⟩) hgl _, by rw [List.length_set]; exact h.len, h.pg, h.rg, h.qg, h.rq, h.lr⟩
/-- the result is written -/
theorem PlAt.done (h : PlAt W wr p r q g cap n u l w v cur) (a' b' c' d' : Value) :
    ((put4 wr r a' b' c' d').cell? ⟨r, 0, none⟩ = some a' ∧ (put4 wr r a' b' c' d').cell? ⟨r, 1, none⟩ = some b' ∧ (put4 wr r a' b' c' d').cell? ⟨r, 2, none⟩ = some c' ∧ (put4 wr r a' b' c' d').cell? ⟨r, 3, none⟩ = some d') ∧
    Below W.heap.size W (put4 wr r a' b' c' d') ∧ (put4 wr r a' b' c' d').ownsRow W.heap.size 98 2 (.slice (some ⟨g, 0, none⟩) n cap) n (rodsC cur) := by
  have hg := heap_setCell_same _ r 3 _ _ d' (heap_setCell_same _ r 2 _ _ c' (heap_setCell_same _ r 1 _ _ b' (heap_setCell_same wr r 0 _ _ a' h.res)))
  have hne : (Value.slice (some ⟨g, 0, none⟩) n cap).ownBlock ≠ some r := by intro e; injection e with e; exact h.rg e.symm
  refine ⟨(blk4 hg).1, ?_, ?_⟩
  · exact (((h.bel.setCell (p := ⟨r, 0, none⟩) h.lr a').setCell (p := ⟨r, 1, none⟩) h.lr b').setCell (p := ⟨r, 2, none⟩) h.lr c').setCell (p := ⟨r, 3, none⟩) h.lr d'
  · exact ownsRow_setCell_other (ownsRow_setCell_other (ownsRow_setCell_other (ownsRow_setCell_other h.row (a := ⟨r, 0, none⟩) hne a') (a := ⟨r, 1, none⟩) hne b') (a := ⟨r, 2, none⟩) hne c') (a := ⟨r, 3, none⟩) hne d'
end
/-- a result: an abacus and a code -/
def RetAb (W : World) (x : Ab × Int) (e : Ending) (w' : World) : Prop := ∃ v', e = .returned (.tuple #[aggAb x.1.u x.1.l x.1.w v', .int .i64 x.2]) ∧ w'.ownsRow W.heap.size 98 2 v' x.1.rods.length (rodsC x.1.rods) ∧ Below W.heap.size W w'
theorem own_nilAb (w : World) (B : Nat) : w.ownsRow B 98 2 (.slice none 0 0) 0 (rodsC []) := ⟨rfl, .inl ⟨rfl, rfl⟩⟩
end Go.Proofs.Ytemcdmjnokpldaa
