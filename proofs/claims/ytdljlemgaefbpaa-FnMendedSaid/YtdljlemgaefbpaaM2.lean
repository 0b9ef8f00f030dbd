/- Mended rows, part 2: guesses. -/
import Derived.Test.YtdljlemgaefbpaaM1
namespace Go.Proofs.Ytdljlemgaefbpaa
open Go.RowKit Go.Joins

theorem gT_up {f : Nat → Int} {o row j : Nat} {x : Int} (hr : row < o) (hx : f (row + j) = x) (hp : j % 2 = 1) : gT f o row j = ((ch o j : Nat) : Int) * x := by rw [gT_abs (x := x) (by rw [if_pos hr]; exact hx), if_pos hp]
theorem gT_up' {f : Nat → Int} {o row j : Nat} {x : Int} (hr : row < o) (hx : f (row + j) = x) (hp : ¬ j % 2 = 1) : gT f o row j = -(((ch o j : Nat) : Int) * x) := by rw [gT_abs (x := x) (by rw [if_pos hr]; exact hx), if_neg hp]
theorem gT_dn {f : Nat → Int} {o row j : Nat} {x : Int} (hr : ¬ row < o) (hx : f (row - j) = x) (hp : j % 2 = 1) : gT f o row j = ((ch o j : Nat) : Int) * x := by rw [gT_abs (x := x) (by rw [if_neg hr]; exact hx), if_pos hp]
theorem gT_dn' {f : Nat → Int} {o row j : Nat} {x : Int} (hr : ¬ row < o) (hx : f (row - j) = x) (hp : ¬ j % 2 = 1) : gT f o row j = -(((ch o j : Nat) : Int) * x) := by rw [gT_abs (x := x) (by rw [if_neg hr]; exact hx), if_neg hp]
def sgj (j : Nat) : Int := if j % 2 = 1 then 1 else -1
set_option maxRecDepth 100000 in
set_option maxHeartbeats 3200000 in
theorem guessI_c (B : Nat) (v : Value) (m : Nat) (f : Nat → Int) (o row : Nat) (w : World) (h : Rd w B v m 1 (tab m f)) (hv : Vals m f) (ho1 : 1 ≤ o) (ho : o ≤ 8) (hm : 2 * o + 1 ≤ m) (hm6 : m ≤ 60) (hr : row < m) :
    Calls Try.prog 128 #[v, .int .i64 (row : Int), .int .i64 (o : Int)] w fun e w' => e = .returned (.int .i64 (due f o row)) ∧ ∃ d, w' = w.drewN d := by
  have H := Lib.hid h
  have HV := Lib.hid hv
  have HG := Lib.hid (fun k hk => gS_bd hv ho hm hr k hk)
  obtain ⟨A, c, rfl⟩ := rd_sl h
  clear h hv
  by_cases hro : row < o
  · have hri : (row : Int) < (o : Int) := by omega
    go_enter Try.func128, Try.ntmps128
    go_wp2_with fail
    go_loopw [8, 9, 10] (fun a s i wr => ∃ k d : Nat, k ≤ o ∧ i = .int .i64 ((k + 1 : Nat) : Int) ∧ a = .int .i64 (gS f o row k) ∧ s = .int .i64 (sgj (k + 1)) ∧ wr = w.drewN d) (fun _ _ i _ => o + 1 - (intOf i).toNat)
    case atStart => exact ⟨0, 0, Nat.zero_le _, rfl, rfl, rfl, rfl⟩
    case round =>
      obtain ⟨k, d, hk, rfl, rfl, rfl, hwr⟩ := hrel
      have Hw := Lib.hid hwr
      by_cases hlt : k < o
      · obtain ⟨b1, o1, hA, _, hcc⟩ := rdF_all (H.out.drewN d) (by omega)
        rw [← hwr] at hcc
        subst hA
        obtain ⟨j, hj⟩ : ∃ j, k + 1 = j := ⟨_, rfl⟩
        have Hgs := Lib.hid (show gS f o row (k + 1) = gS f o row k + gT f o row (k + 1) from rfl)
        have hgb := HG.out k (by omega)
        have hgb2 := HG.out (k + 1) (by omega)
        rw [hj] at Hgs hgb2 ⊢
        have x0 := hcc (row + j) (by omega)
        have hxb := HV.out (row + j) (by omega)
        have HB := Lib.hid (fun wx => binomial_any o j wx (by omega) (by omega))
        obtain ⟨b1', b2', b3'⟩ := bin_ch o (by omega) j (by omega)
        rw [b1'] at HB
        have Hp1 := Lib.hid (fun x hx hp => gT_up (f := f) (o := o) (row := row) (j := j) (x := x) hro hx hp)
        have Hp2 := Lib.hid (fun x hx hp => gT_up' (f := f) (o := o) (row := row) (j := j) (x := x) hro hx hp)
        have Hp1 := Lib.hid (Hp1.out _ rfl)
        have Hp2 := Lib.hid (Hp2.out _ rfl)
        have Hsg := Lib.hid (show sgj (j + 1) = -(sgj j) by unfold sgj; by_cases e : j % 2 = 1 <;> simp [e] <;> omega)
        have hjo : (j : Int) ≤ (o : Int) := by omega
        have hj1 : (1 : Int) ≤ (j : Int) := by omega
        have hci : ((ch o j : Nat) : Int) ≤ 70 := by omega
        have hc0 : (0 : Int) ≤ ((ch o j : Nat) : Int) := by omega
        have hab := abs_mul (a := ((ch o j : Nat) : Int)) (b := f (row + j)) (A := 70) (B := 1000000000000) (by omega) (by omega)
        generalize ((ch o j : Nat) : Int) = C at *
        generalize f (row + j) = x at *
        obtain ⟨P, hP⟩ : ∃ P, C * x = P := ⟨_, rfl⟩
        rw [hP] at Hp1 Hp2 hab
        generalize gS f o row k = s at *
        have hidx : ((row + j : Nat) : Int) < (m : Int) := by omega
        have hidx0 : (0 : Int) ≤ ((row + j : Nat) : Int) := by omega
        have hw1 : IntKind.i64.wrap (1 * (j : Int)) = (j : Int) := by rw [IntWalk.i64_in _ (by omega)]; omega
        have hw1b : IntKind.i64.wrap ((j : Int) * 1) = (j : Int) := by rw [IntWalk.i64_in _ (by omega)]; omega
        have hw2 : IntKind.i64.wrap ((row : Int) + (j : Int)) = ((row + j : Nat) : Int) := by rw [IntWalk.i64_in _ (by omega)]; omega
        have Hj := Lib.hid hj
        clear hcc hj b1' b2' b3' hwr
        by_cases hp : j % 2 = 1
        · have Hp1 := Lib.hid (Hp1.out hp)
          rw [show sgj j = 1 by unfold sgj; rw [if_pos hp]] at Hsg ⊢
          have hs1 : IntKind.i64.wrap (1 * C) = C := by rw [Int.one_mul]; exact IntWalk.i64_in _ (by omega)
          have hs2 : IntKind.i64.wrap (C * x) = P := by rw [hP]; exact IntWalk.i64_in _ (by omega)
          have hs3 : IntKind.i64.wrap (s + P) = s + P := IntWalk.i64_in _ (by omega)
          clear hP Hp2 hp
          go_wp2_with fail
          go_quiet ((go_at_call 123; exact Calls.quiet_of_same (flipQ (HB.out _))))
          go_wp2_with fail
          go_roundw
          case rel => exact ⟨j, d + nq, by omega, by go_num, by rw [Hgs.out, Hp1.out], by rw [Hsg.out], by rw [Hw.out]; exact World.drewN_drewN _ _ _⟩
          case measure => first | (simp [intOf]; done) | (simp [intOf]; omega)
        · have Hp2 := Lib.hid (Hp2.out hp)
          rw [show sgj j = -1 by unfold sgj; rw [if_neg hp]] at Hsg ⊢
          have hs1 : IntKind.i64.wrap (-1 * C) = -C := by rw [Int.neg_mul, Int.one_mul]; exact IntWalk.i64_in _ (by omega)
          have hs2 : IntKind.i64.wrap (-C * x) = -P := by rw [Int.neg_mul, hP]; exact IntWalk.i64_in _ (by omega)
          have hs3 : IntKind.i64.wrap (s + -P) = s + -P := IntWalk.i64_in _ (by omega)
          clear hP Hp1 hp
          go_wp2_with fail
          go_quiet ((go_at_call 123; exact Calls.quiet_of_same (flipQ (HB.out _))))
          go_wp2_with fail
          go_roundw
          case rel => exact ⟨j, d + nq, by omega, by go_num, by rw [Hgs.out, Hp2.out], by rw [Hsg.out]; rfl, by rw [Hw.out]; exact World.drewN_drewN _ _ _⟩
          case measure => first | (simp [intOf]; done) | (simp [intOf]; omega)
      · have hge : (o : Int) < ((k + 1 : Nat) : Int) := by omega
        have Hko := Lib.hid (show gS f o row k = due f o row by rw [show k = o by omega]; rfl)
        clear hwr
        go_wp2_with fail
        go_ret
        exact ⟨ret_int Hko.out, d, Hw.out⟩
  · have hri : ¬ (row : Int) < (o : Int) := by omega
    go_enter Try.func128, Try.ntmps128
    go_wp2_with fail
    go_loopw [8, 9, 10] (fun a s i wr => ∃ k d : Nat, k ≤ o ∧ i = .int .i64 ((k + 1 : Nat) : Int) ∧ a = .int .i64 (gS f o row k) ∧ s = .int .i64 (sgj (k + 1)) ∧ wr = w.drewN d) (fun _ _ i _ => o + 1 - (intOf i).toNat)
    case atStart => exact ⟨0, 0, Nat.zero_le _, rfl, rfl, rfl, rfl⟩
    case round =>
      obtain ⟨k, d, hk, rfl, rfl, rfl, hwr⟩ := hrel
      have Hw := Lib.hid hwr
      by_cases hlt : k < o
      · obtain ⟨b1, o1, hA, _, hcc⟩ := rdF_all (H.out.drewN d) (by omega)
        rw [← hwr] at hcc
        subst hA
        obtain ⟨j, hj⟩ : ∃ j, k + 1 = j := ⟨_, rfl⟩
        have Hgs := Lib.hid (show gS f o row (k + 1) = gS f o row k + gT f o row (k + 1) from rfl)
        have hgb := HG.out k (by omega)
        have hgb2 := HG.out (k + 1) (by omega)
        rw [hj] at Hgs hgb2 ⊢
        have x0 := hcc (row - j) (by omega)
        have hxb := HV.out (row - j) (by omega)
        have HB := Lib.hid (fun wx => binomial_any o j wx (by omega) (by omega))
        obtain ⟨b1', b2', b3'⟩ := bin_ch o (by omega) j (by omega)
        rw [b1'] at HB
        have Hp1 := Lib.hid (fun x hx hp => gT_dn (f := f) (o := o) (row := row) (j := j) (x := x) hro hx hp)
        have Hp2 := Lib.hid (fun x hx hp => gT_dn' (f := f) (o := o) (row := row) (j := j) (x := x) hro hx hp)
        have Hp1 := Lib.hid (Hp1.out _ rfl)
        have Hp2 := Lib.hid (Hp2.out _ rfl)
        have Hsg := Lib.hid (show sgj (j + 1) = -(sgj j) by unfold sgj; by_cases e : j % 2 = 1 <;> simp [e] <;> omega)
        have hjo : (j : Int) ≤ (o : Int) := by omega
        have hj1 : (1 : Int) ≤ (j : Int) := by omega
        have hci : ((ch o j : Nat) : Int) ≤ 70 := by omega
        have hc0 : (0 : Int) ≤ ((ch o j : Nat) : Int) := by omega
        have hab := abs_mul (a := ((ch o j : Nat) : Int)) (b := f (row - j)) (A := 70) (B := 1000000000000) (by omega) (by omega)
        generalize ((ch o j : Nat) : Int) = C at *
        generalize f (row - j) = x at *
        obtain ⟨P, hP⟩ : ∃ P, C * x = P := ⟨_, rfl⟩
        rw [hP] at Hp1 Hp2 hab
        generalize gS f o row k = s at *
        have hidx : ((row - j : Nat) : Int) < (m : Int) := by omega
        have hidx0 : (0 : Int) ≤ ((row - j : Nat) : Int) := by omega
        have hw1 : IntKind.i64.wrap (-1 * (j : Int)) = -(j : Int) := by rw [IntWalk.i64_in _ (by omega)]; omega
        have hw1b : IntKind.i64.wrap ((j : Int) * -1) = -(j : Int) := by rw [IntWalk.i64_in _ (by omega)]; omega
        have hw2 : IntKind.i64.wrap ((row : Int) + -(j : Int)) = ((row - j : Nat) : Int) := by rw [IntWalk.i64_in _ (by omega)]; omega
        have Hj := Lib.hid hj
        clear hcc hj b1' b2' b3' hwr
        by_cases hp : j % 2 = 1
        · have Hp1 := Lib.hid (Hp1.out hp)
          rw [show sgj j = 1 by unfold sgj; rw [if_pos hp]] at Hsg ⊢
          have hs1 : IntKind.i64.wrap (1 * C) = C := by rw [Int.one_mul]; exact IntWalk.i64_in _ (by omega)
          have hs2 : IntKind.i64.wrap (C * x) = P := by rw [hP]; exact IntWalk.i64_in _ (by omega)
          have hs3 : IntKind.i64.wrap (s + P) = s + P := IntWalk.i64_in _ (by omega)
          clear hP Hp2 hp
          go_wp2_with fail
          go_quiet ((go_at_call 123; exact Calls.quiet_of_same (flipQ (HB.out _))))
          go_wp2_with fail
          go_roundw
          case rel => exact ⟨j, d + nq, by omega, by go_num, by rw [Hgs.out, Hp1.out], by rw [Hsg.out], by rw [Hw.out]; exact World.drewN_drewN _ _ _⟩
          case measure => first | (simp [intOf]; done) | (simp [intOf]; omega)
        · have Hp2 := Lib.hid (Hp2.out hp)
          rw [show sgj j = -1 by unfold sgj; rw [if_neg hp]] at Hsg ⊢
          have hs1 : IntKind.i64.wrap (-1 * C) = -C := by rw [Int.neg_mul, Int.one_mul]; exact IntWalk.i64_in _ (by omega)
          have hs2 : IntKind.i64.wrap (-C * x) = -P := by rw [Int.neg_mul, hP]; exact IntWalk.i64_in _ (by omega)
          have hs3 : IntKind.i64.wrap (s + -P) = s + -P := IntWalk.i64_in _ (by omega)
          clear hP Hp1 hp
          go_wp2_with fail
          go_quiet ((go_at_call 123; exact Calls.quiet_of_same (flipQ (HB.out _))))
          go_wp2_with fail
          go_roundw
          case rel => exact ⟨j, d + nq, by omega, by go_num, by rw [Hgs.out, Hp2.out], by rw [Hsg.out]; rfl, by rw [Hw.out]; exact World.drewN_drewN _ _ _⟩
          case measure => first | (simp [intOf]; done) | (simp [intOf]; omega)
      · have hge : (o : Int) < ((k + 1 : Nat) : Int) := by omega
        have Hko := Lib.hid (show gS f o row k = due f o row by rw [show k = o by omega]; rfl)
        clear hwr
        go_wp2_with fail
        go_ret
        exact ⟨ret_int Hko.out, d, Hw.out⟩
set_option maxRecDepth 100000 in
set_option maxHeartbeats 3200000 in
theorem guessS_c (B : Nat) (v : Value) (m : Nat) (f : Nat → Int) (o row : Nat) (w : World) (h : Rd w B v m 1 (tab m f)) (hv : Vals m f) (ho1 : 1 ≤ o) (ho : o ≤ 8) (hm : 2 * o + 1 ≤ m) (hm6 : m ≤ 60) (hr : row < m) :
    Calls Try.prog 130 #[v, .int .i64 (row : Int), .int .i64 (o : Int)] w fun e w' => e = .returned (.tuple #[.int .i64 (due f o row), .bool true]) ∧ ∃ d, w' = w.drewN d := by
  have H := Lib.hid h
  have HV := Lib.hid hv
  have HG := Lib.hid (fun k hk => gS_bd hv ho hm hr k hk)
  obtain ⟨A, c, rfl⟩ := rd_sl h
  clear h hv
  by_cases hro : row < o
  · have hri : (row : Int) < (o : Int) := by omega
    have hfar : ¬ (m : Int) ≤ (row : Int) + (o : Int) := by omega
    go_enter Try.func130, Try.ntmps130
    go_wp2_with fail
    go_loopw [9, 10] (fun a i wr => ∃ k d : Nat, k ≤ o ∧ i = .int .i64 ((k + 1 : Nat) : Int) ∧ a = .int .i64 (gS f o row k) ∧ wr = w.drewN d) (fun _ i _ => o + 1 - (intOf i).toNat)
    case atStart => exact ⟨0, 0, Nat.zero_le _, rfl, rfl, rfl⟩
    case round =>
      obtain ⟨k, d, hk, rfl, rfl, hwr⟩ := hrel
      have Hw := Lib.hid hwr
      by_cases hlt : k < o
      · obtain ⟨b1, o1, hA, _, hcc⟩ := rdF_all (H.out.drewN d) (by omega)
        rw [← hwr] at hcc
        subst hA
        obtain ⟨j, hj⟩ : ∃ j, k + 1 = j := ⟨_, rfl⟩
        have Hgs := Lib.hid (show gS f o row (k + 1) = gS f o row k + gT f o row (k + 1) from rfl)
        have hgb := HG.out k (by omega)
        have hgb2 := HG.out (k + 1) (by omega)
        rw [hj] at Hgs hgb2 ⊢
        have x0 := hcc (row + j) (by omega)
        have hxb := HV.out (row + j) (by omega)
        have HB := Lib.hid (fun wx => l17Choose_c o j wx (by omega) (by omega))
        obtain ⟨b1', b2', b3'⟩ := bin_ch o (by omega) j (by omega)
        rw [b2'] at HB
        have Hp1 := Lib.hid (fun x hx hp => gT_up (f := f) (o := o) (row := row) (j := j) (x := x) hro hx hp)
        have Hp2 := Lib.hid (fun x hx hp => gT_up' (f := f) (o := o) (row := row) (j := j) (x := x) hro hx hp)
        have Hp1 := Lib.hid (Hp1.out _ rfl)
        have Hp2 := Lib.hid (Hp2.out _ rfl)
        have Hsg := Lib.hid (show sgj (j + 1) = -(sgj j) by unfold sgj; by_cases e : j % 2 = 1 <;> simp [e] <;> omega)
        have hjo : (j : Int) ≤ (o : Int) := by omega
        have hj1 : (1 : Int) ≤ (j : Int) := by omega
        have hci : ((ch o j : Nat) : Int) ≤ 70 := by omega
        have hc0 : (0 : Int) ≤ ((ch o j : Nat) : Int) := by omega
        have hab := abs_mul (a := ((ch o j : Nat) : Int)) (b := f (row + j)) (A := 70) (B := 1000000000000) (by omega) (by omega)
        generalize ((ch o j : Nat) : Int) = C at *
        generalize f (row + j) = x at *
        obtain ⟨P, hP⟩ : ∃ P, C * x = P := ⟨_, rfl⟩
        rw [hP] at Hp1 Hp2 hab
        generalize gS f o row k = s at *
        have hidx : ((row + j : Nat) : Int) < (m : Int) := by omega
        have hidx0 : (0 : Int) ≤ ((row + j : Nat) : Int) := by omega
        have hw1 : IntKind.i64.wrap (1 * (j : Int)) = (j : Int) := by rw [IntWalk.i64_in _ (by omega)]; omega
        have hw1b : IntKind.i64.wrap ((j : Int) * 1) = (j : Int) := by rw [IntWalk.i64_in _ (by omega)]; omega
        have hw2 : IntKind.i64.wrap ((row : Int) + (j : Int)) = ((row + j : Nat) : Int) := by rw [IntWalk.i64_in _ (by omega)]; omega
        have Hj := Lib.hid hj
        clear hcc hj b1' b2' b3' hwr
        have hs2 : IntKind.i64.wrap (C * x) = P := by rw [hP]; exact IntWalk.i64_in _ (by omega)
        by_cases hp : j % 2 = 1
        · have Hp1 := Lib.hid (Hp1.out hp)
          have hpe : ((j : Int) % 2 == 0) = false := by simp; omega
          clear hP Hp2 hp
          go_wp2_with fail
          go_quiet ((go_at_call 124; exact Calls.quiet_of_same (flipQ (HB.out _))))
          go_wp2_with fail
          go_roundw
          case rel => exact ⟨j, d + nq, by omega, by go_num, by rw [Hgs.out, Hp1.out], by rw [Hw.out]; exact World.drewN_drewN _ _ _⟩
          case measure => first | (simp [intOf]; done) | (simp [intOf]; omega)
        · have Hp2 := Lib.hid (Hp2.out hp)
          have hpe : ((j : Int) % 2 == 0) = true := by simp; omega
          clear hP Hp1 hp
          go_wp2_with fail
          go_quiet ((go_at_call 124; exact Calls.quiet_of_same (flipQ (HB.out _))))
          go_wp2_with fail
          go_roundw
          case rel => exact ⟨j, d + nq, by omega, by go_num, by rw [Hgs.out, Hp2.out], by rw [Hw.out]; exact World.drewN_drewN _ _ _⟩
          case measure => first | (simp [intOf]; done) | (simp [intOf]; omega)
      · have hge : (o : Int) < ((k + 1 : Nat) : Int) := by omega
        have Hko := Lib.hid (show gS f o row k = due f o row by rw [show k = o by omega]; rfl)
        clear hwr
        go_wp2_with fail
        go_ret2
        exact ⟨ret2_int Hko.out, d, Hw.out⟩
  · have hri : ¬ (row : Int) < (o : Int) := by omega
    go_enter Try.func130, Try.ntmps130
    go_wp2_with fail
    go_loopw [9, 10] (fun a i wr => ∃ k d : Nat, k ≤ o ∧ i = .int .i64 ((k + 1 : Nat) : Int) ∧ a = .int .i64 (gS f o row k) ∧ wr = w.drewN d) (fun _ i _ => o + 1 - (intOf i).toNat)
    case atStart => exact ⟨0, 0, Nat.zero_le _, rfl, rfl, rfl⟩
    case round =>
      obtain ⟨k, d, hk, rfl, rfl, hwr⟩ := hrel
      have Hw := Lib.hid hwr
      by_cases hlt : k < o
      · obtain ⟨b1, o1, hA, _, hcc⟩ := rdF_all (H.out.drewN d) (by omega)
        rw [← hwr] at hcc
        subst hA
        obtain ⟨j, hj⟩ : ∃ j, k + 1 = j := ⟨_, rfl⟩
        have Hgs := Lib.hid (show gS f o row (k + 1) = gS f o row k + gT f o row (k + 1) from rfl)
        have hgb := HG.out k (by omega)
        have hgb2 := HG.out (k + 1) (by omega)
        rw [hj] at Hgs hgb2 ⊢
        have x0 := hcc (row - j) (by omega)
        have hxb := HV.out (row - j) (by omega)
        have HB := Lib.hid (fun wx => l17Choose_c o j wx (by omega) (by omega))
        obtain ⟨b1', b2', b3'⟩ := bin_ch o (by omega) j (by omega)
        rw [b2'] at HB
        have Hp1 := Lib.hid (fun x hx hp => gT_dn (f := f) (o := o) (row := row) (j := j) (x := x) hro hx hp)
        have Hp2 := Lib.hid (fun x hx hp => gT_dn' (f := f) (o := o) (row := row) (j := j) (x := x) hro hx hp)
        have Hp1 := Lib.hid (Hp1.out _ rfl)
        have Hp2 := Lib.hid (Hp2.out _ rfl)
        have Hsg := Lib.hid (show sgj (j + 1) = -(sgj j) by unfold sgj; by_cases e : j % 2 = 1 <;> simp [e] <;> omega)
        have hjo : (j : Int) ≤ (o : Int) := by omega
        have hj1 : (1 : Int) ≤ (j : Int) := by omega
        have hci : ((ch o j : Nat) : Int) ≤ 70 := by omega
        have hc0 : (0 : Int) ≤ ((ch o j : Nat) : Int) := by omega
        have hab := abs_mul (a := ((ch o j : Nat) : Int)) (b := f (row - j)) (A := 70) (B := 1000000000000) (by omega) (by omega)
        generalize ((ch o j : Nat) : Int) = C at *
        generalize f (row - j) = x at *
        obtain ⟨P, hP⟩ : ∃ P, C * x = P := ⟨_, rfl⟩
        rw [hP] at Hp1 Hp2 hab
        generalize gS f o row k = s at *
        have hidx : ((row - j : Nat) : Int) < (m : Int) := by omega
        have hidx0 : (0 : Int) ≤ ((row - j : Nat) : Int) := by omega
        have hw1 : IntKind.i64.wrap (-1 * (j : Int)) = -(j : Int) := by rw [IntWalk.i64_in _ (by omega)]; omega
        have hw1b : IntKind.i64.wrap ((j : Int) * -1) = -(j : Int) := by rw [IntWalk.i64_in _ (by omega)]; omega
        have hw2 : IntKind.i64.wrap ((row : Int) + -(j : Int)) = ((row - j : Nat) : Int) := by rw [IntWalk.i64_in _ (by omega)]; omega
        have Hj := Lib.hid hj
        clear hcc hj b1' b2' b3' hwr
        have hs2 : IntKind.i64.wrap (C * x) = P := by rw [hP]; exact IntWalk.i64_in _ (by omega)
        by_cases hp : j % 2 = 1
        · have Hp1 := Lib.hid (Hp1.out hp)
          have hpe : ((j : Int) % 2 == 0) = false := by simp; omega
          clear hP Hp2 hp
          go_wp2_with fail
          go_quiet ((go_at_call 124; exact Calls.quiet_of_same (flipQ (HB.out _))))
          go_wp2_with fail
          go_roundw
          case rel => exact ⟨j, d + nq, by omega, by go_num, by rw [Hgs.out, Hp1.out], by rw [Hw.out]; exact World.drewN_drewN _ _ _⟩
          case measure => first | (simp [intOf]; done) | (simp [intOf]; omega)
        · have Hp2 := Lib.hid (Hp2.out hp)
          have hpe : ((j : Int) % 2 == 0) = true := by simp; omega
          clear hP Hp1 hp
          go_wp2_with fail
          go_quiet ((go_at_call 124; exact Calls.quiet_of_same (flipQ (HB.out _))))
          go_wp2_with fail
          go_roundw
          case rel => exact ⟨j, d + nq, by omega, by go_num, by rw [Hgs.out, Hp2.out], by rw [Hw.out]; exact World.drewN_drewN _ _ _⟩
          case measure => first | (simp [intOf]; done) | (simp [intOf]; omega)
      · have hge : (o : Int) < ((k + 1 : Nat) : Int) := by omega
        have Hko := Lib.hid (show gS f o row k = due f o row by rw [show k = o by omega]; rfl)
        clear hwr
        go_wp2_with fail
        go_ret2
        exact ⟨ret2_int Hko.out, d, Hw.out⟩
end Go.Proofs.Ytdljlemgaefbpaa
