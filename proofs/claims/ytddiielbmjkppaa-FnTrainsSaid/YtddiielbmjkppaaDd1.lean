/- Differences, part 9: the program's Newton values, tables, comparison of rows. -/
import Derived.Test.YtddiielbmjkppaaDf8
namespace Go.Proofs.Ytddiielbmjkppaa
open Go.RowKit Go.Joins

theorem areValues_b (B : Nat) (v : Value) (n : Nat) (f : Nat → Int) (w : World) (h : Rd w B v n 1 (tab n f)) (h1 : 1 ≤ n) (h2 : n ≤ 30) (hS : Small 1000000000 n f) :
    Calls Try.prog 172 #[v] w fun e w' => e = .returned (.bool true) ∧ w = w' := by
  have HE := Lib.hid (areEntries_any B v n 30 f w h (by omega) h1 (by omega) hS)
  obtain ⟨A, c, rfl⟩ := rd_sl h
  clear h hS
  go_enter Try.func172, Try.ntmps172
  go_wp2_with fail
  refine (HE.out).mono ?_; rintro e w1 ⟨rfl, rfl⟩
  go_wp2_with fail
  go_ret
  exact ⟨rfl, rfl⟩
theorem isDegree_b (d : Nat) (w : World) (h : d ≤ 8) :
    Calls Try.prog 176 #[.int .i64 (d : Int)] w fun e w' => e = .returned (.bool true) ∧ w = w' := by
  have HB := Lib.hid (fun wx => between_any (d : Int) 0 8 wx)
  rw [inB_true (by omega) (by omega)] at HB
  go_enter Try.func176, Try.ntmps176
  go_wp2_with fail
  refine ((HB.out _)).mono ?_; rintro e w1 ⟨rfl, rfl⟩
  go_wp2_with fail
  go_ret
  exact ⟨rfl, rfl⟩
theorem absolute_any (x : Int) (w : World) (h1 : -4611686018427387904 ≤ x) (h2 : x ≤ 4611686018427387904) :
    Calls Try.prog 228 #[.int .i64 x] w fun e w' => e = .returned (.int .i64 (x.natAbs : Int)) ∧ w = w' := by
  by_cases h : x < 0
  · have hw : IntKind.i64.wrap (-x) = -x := IntWalk.i64_in _ (by omega)
    go_enter Try.func228, Try.ntmps228
    go_wp2_with fail
    go_ret
    exact ⟨ret_int (by omega), rfl⟩
  · go_enter Try.func228, Try.ntmps228
    go_wp2_with fail
    go_ret
    exact ⟨ret_int (by omega), rfl⟩
/-- the binomial coefficient one place before -/
def chq (x j : Nat) : Nat := chb x (j - 1)
theorem chb_1 (x : Nat) (i : Nat) : chb x (i + 1) = chb x i * (x - i) / (i + 1) := by
  show (if i < x then chb x i * (x - i) / (i + 1) else 0) = _
  split
  · rfl
  · rw [show x - i = 0 by omega, Nat.mul_zero, Nat.zero_div]
theorem chb_0 (x : Nat) : ∀ i, x < i → chb x i = 0
  | 0, h => by omega
  | i + 1, h => by rw [chb_1, show x - i = 0 by omega, Nat.mul_zero, Nat.zero_div]
/-- what the program reckons: the next coefficient -/
theorem chq_step (x i : Nat) : (chb x i : Int) * ((x : Int) - ((i + 1 : Nat) : Int) + 1) = ((chb x i * (x - i) : Nat) : Int) := by
  by_cases h : i ≤ x
  · rw [Int.natCast_mul]
    congr 1; omega
  · rw [chb_0 x i (by omega)]; simp

set_option maxRecDepth 100000 in
set_option maxHeartbeats 1600000 in
theorem newtonValue_any (B : Nat) (v : Value) (n C x : Nat) (f : Nat → Int) (w : World) (h : Rd w B v n 1 (tab n f)) (h1 : 1 ≤ n) (h2 : n ≤ 9) (hx : x < 14) (hS : Small C n f) (hC : C ≤ 1000000) :
    Calls Try.prog 171 #[v, .int .i64 (x : Int)] w fun e w' => e = .returned (.tuple #[.int .i64 (nval f x n), .bool true]) ∧ w = w' := by
  have H := Lib.hid h
  have HS := Lib.hid hS
  have HN := Lib.hid (fun j hj => nval_bd hS hx h2 j hj)
  obtain ⟨A, c, rfl⟩ := rd_sl h
  clear h hS
  go_enter Try.func171, Try.ntmps171
  go_wp2_with fail
  go_loop [6, 7, 12] (fun a b i => ∃ j : Nat, j ≤ n ∧ i = .int .i64 (j : Int) ∧ a = .int .i64 (nval f x j) ∧ b = .int .i64 (chq x j : Int)) (fun _ _ i => n - (intOf i).toNat)
  case atStart => exact ⟨0, Nat.zero_le _, rfl, rfl, rfl⟩
  case round =>
    obtain ⟨j, hj, rfl, rfl, rfl⟩ := hrel
    by_cases hlt : j < n
    · obtain ⟨b1, o1, hA, _, hcc⟩ := rdF_all H.out h1
      subst hA
      have q0 := hcc j hlt
      have s0 := HS.out j hlt
      have n0 := HN.out j hj
      have n1 := HN.out (j + 1) (by omega)
      have c0 := chb_bd x hx j (by omega)
      have m0 := mul_bd s0 (chb x j) 1716 c0
      have hk : j * (C * 1716) ≤ 9 * (1000000 * 1716) := Nat.mul_le_mul (by omega) (Nat.mul_le_mul_right _ hC)
      have hk1 : (j + 1) * (C * 1716) ≤ 9 * (1000000 * 1716) := Nat.mul_le_mul (by omega) (Nat.mul_le_mul_right _ hC)
      have Hn := Lib.hid (show nval f x (j + 1) = nval f x j + f j * (chb x j : Int) from rfl)
      rw [Hn.out] at n1
      have hlt' : (j : Int) < (n : Int) := by omega
      have hC' : C * 1716 ≤ 1000000 * 1716 := Nat.mul_le_mul_right _ hC
      have Hq := Lib.hid (show chq x (j + 1) = chb x j from rfl)
      generalize f j = y at *
      generalize nval f x j = s at *
      clear hcc
      have hz0 : y ≠ 0 → (1000000000 : Int) ≤ (1000000000000000 : Int) / (y.natAbs : Int) := fun hy => quo_bd y hy (by omega)
      have HZ := Lib.hid (fun wx => absolute_any y wx (by omega) (by omega))
      have key : (j = 0 ∧ chq x j = 1 ∧ chb x j = 1) ∨ ∃ i, j = i + 1 ∧ chq x j = chb x i ∧ chb x i ≤ 1716 ∧ (chb x i : Int) * ((x : Int) - (j : Int) + 1) = ((chb x i * (x - i) : Nat) : Int) ∧ chb x i * (x - i) ≤ 1716 * 13 ∧ ((chb x i * (x - i) : Nat) : Int) / (j : Int) = (chb x j : Int) := by
        cases j with
        | zero => exact .inl ⟨rfl, rfl, rfl⟩
        | succ i => exact .inr ⟨i, rfl, rfl, chb_bd x hx i (by omega), chq_step x i, Nat.mul_le_mul (chb_bd x hx i (by omega)) (by omega), by rw [chb_1]; exact (Int.natCast_ediv _ _).symm⟩
      generalize hch : chb x j = ch at *
      clear hch
      by_cases hz : y = 0 ∨ ch = 0
      · have hP : y * (ch : Int) = 0 := by rcases hz with rfl | rfl <;> simp
        rw [hP, Int.add_zero] at Hn
        clear hP m0 n1 hz0 HZ
        rcases key with ⟨rfl, e1, e2⟩ | ⟨i, hji, e1, e2, e3, e4, e5⟩
        · rw [e1]
          obtain rfl : ch = 1 := e2
          have hy0 : y = 0 := by omega
          subst hy0
          rw [Nat.add_zero] at q0
          clear e1 hz
          go_wp2_with fail
          go_round
          case rel => exact ⟨1, by omega, rfl, by rw [Hn.out], by first | (rw [Hq.out]; done) | (rw [Hq.out]; rfl)⟩
          case measure => first | (simp [intOf]; done) | (simp [intOf]; omega)
        · rw [e1]
          have hi1 : (0 : Int) < (j : Int) := by omega
          have Hji := Lib.hid hji
          generalize chb x i * (x - i) = P at *
          generalize chb x i = cp at *
          have hPw : IntKind.i64.wrap (P : Int) = (P : Int) := IntWalk.i64_in _ (by omega)
          have HQ := Lib.hid (show wrap64 ((P : Int) / (j : Int)) = (ch : Int) from by rw [e5]; exact IntWalk.wrap64_in _ ⟨by omega, by omega⟩)
          have hc8 : (cp : Int) ≤ 1000000000000000 := by omega
          have hj9 : (j : Int) < 9 := by omega
          have hmin : ¬ ((1000000000000001 : Int) < (ch : Int)) := by omega
          clear e1 e5 hji
          by_cases hy : y = 0
          · subst hy
            clear hz
            go_upto_region 7 with (fail)
            rw [HQ.out, if_neg hmin]
            go_wp2_with fail
            go_round
            case rel => exact ⟨j + 1, by omega, by go_num, by rw [Hn.out], by rw [Hq.out]⟩
            case measure => first | (simp [intOf]; done) | (simp [intOf]; omega)
          · obtain rfl : ch = 0 := by omega
            have hy' : (y == 0) = false := by simp [hy]
            clear hz
            go_upto_region 7 with (fail)
            rw [HQ.out, if_neg hmin]
            go_wp2_with fail
            go_round
            case rel => exact ⟨j + 1, by omega, by go_num, by rw [Hn.out], by rw [Hq.out]⟩
            case measure => first | (simp [intOf]; done) | (simp [intOf]; omega)
      · have hy : y ≠ 0 := fun e => hz (.inl e)
        have hc0 : ch ≠ 0 := fun e => hz (.inr e)
        have hqb := hz0 hy
        clear hz hz0
        have hy' : (y == 0) = false := by simp [hy]
        have hch' : ((ch : Int) == 0) = false := by simp; omega
        generalize hP : y * (ch : Int) = P at *
        have HI := Lib.hid (fun wx => isFar_any (s + P) wx (by omega) (by omega))
        have hPw : IntKind.i64.wrap P = P := IntWalk.i64_in _ (by omega)
        have hsw : IntKind.i64.wrap (s + P) = s + P := IntWalk.i64_in _ (by omega)
        have hz0 : (0 : Int) < (y.natAbs : Int) := by omega
        have hq2 := Int.ediv_le_self ((y.natAbs : Nat) : Int) (show (0 : Int) ≤ 1000000000000000 by omega)
        have hq3 := Int.ediv_le_self (a := 1000000000000000) ((y.natAbs : Nat) : Int) (by omega)
        generalize hz : (y.natAbs : Int) = z at *
        have hz2 : z ≠ 0 := by omega
        generalize hq : (1000000000000000 : Int) / z = q at *
        have hqt : Int.tdiv 1000000000000000 z = q := by rw [Int.tdiv_eq_ediv_of_nonneg (by omega)]; exact hq
        have hqw : wrap64 q = q := IntWalk.wrap64_in _ ⟨by omega, by omega⟩
        have hqc : ¬ (q < (ch : Int)) := by omega
        have hyb : -1000000 ≤ y ∧ y ≤ 1000000 := by omega
        have hsP : -100000000000 ≤ s + P ∧ s + P ≤ 100000000000 := by omega
        clear n0 n1 m0 hk hk1 hC' s0 hqb hq2 hq3 hz0 hz hq
        rcases key with ⟨rfl, e1, e2⟩ | ⟨i, hji, e1, e2, e3, e4, e5⟩
        · rw [e1]
          obtain rfl : ch = 1 := e2
          rw [Nat.add_zero] at q0
          have hPy : P = y := by omega
          subst hPy
          clear e1 hP
          go_wp2_with fail
          refine (HZ.out _).mono ?_; rintro e w1 ⟨rfl, rfl⟩
          go_wp2_with fail
          refine (HI.out _).mono ?_; rintro e w1 ⟨rfl, rfl⟩
          go_wp2_with fail
          go_round
          case rel => exact ⟨1, by omega, rfl, by rw [Hn.out], by first | (rw [Hq.out]; done) | (rw [Hq.out]; rfl)⟩
          case measure => first | (simp [intOf]; done) | (simp [intOf]; omega)
        · rw [e1]
          have Hji := Lib.hid hji
          have hi1 : (0 : Int) < (j : Int) := by omega
          generalize chb x i * (x - i) = P2 at *
          generalize chb x i = cp at *
          have hPw : IntKind.i64.wrap (P2 : Int) = (P2 : Int) := IntWalk.i64_in _ (by omega)
          have HQ := Lib.hid (show wrap64 ((P2 : Int) / (j : Int)) = (ch : Int) from by rw [e5]; exact IntWalk.wrap64_in _ ⟨by omega, by omega⟩)
          have hc8 : (cp : Int) ≤ 1000000000000000 := by omega
          have hj9 : (j : Int) < 9 := by omega
          have hmin : ¬ ((1000000000000001 : Int) < (ch : Int)) := by omega
          clear e1 e5 hji
          go_upto_region 7 with (fail)
          rw [HQ.out, if_neg hmin]
          go_wp2_with fail
          refine (HZ.out _).mono ?_; rintro e w1 ⟨rfl, rfl⟩
          go_wp2_with fail
          refine (HI.out _).mono ?_; rintro e w1 ⟨rfl, rfl⟩
          go_wp2_with fail
          go_round
          case rel => exact ⟨j + 1, by omega, by go_num, by rw [Hn.out], by rw [Hq.out]⟩
          case measure => first | (simp [intOf]; done) | (simp [intOf]; omega)
    · have hjn : j = n := by omega
      have hlt' : (n : Int) ≤ (j : Int) := by omega
      subst hjn
      go_wp2_with fail
      go_ret2
      exact ⟨rfl, rfl⟩

theorem NewtonValue_b (B : Nat) (v : Value) (n C x : Nat) (f : Nat → Int) (w : World) (h : Rd w B v n 1 (tab n f)) (h1 : 1 ≤ n) (h2 : n ≤ 9) (hx : x < 14) (hS : Small C n f) (hC : C ≤ 1000000) :
    Calls Try.prog 25 #[v, .int .i64 (x : Int)] w fun e w' => e = .returned (.tuple #[.int .i64 (nval f x n), .int .i64 0]) ∧ w = w' := by
  have HC := Lib.hid (areCoefs_any B v n f w h h1 h2 (hS.more (by omega)))
  have HB := Lib.hid (fun wx => between_any (x : Int) 0 1000 wx)
  rw [inB_true (by omega) (by omega)] at HB
  have HV := Lib.hid (newtonValue_any B v n C x f w h h1 h2 hx hS hC)
  obtain ⟨A, c, rfl⟩ := rd_sl h
  clear h hS
  go_enter Try.func25, Try.ntmps25
  go_wp2_with fail
  refine (HC.out).mono ?_; rintro e w1 ⟨rfl, rfl⟩
  go_wp2_with fail
  refine (HB.out _).mono ?_; rintro e w1 ⟨rfl, rfl⟩
  go_wp2_with fail
  refine (HV.out).mono ?_; rintro e w1 ⟨rfl, rfl⟩
  go_wp2_with fail
  go_ret2
  exact ⟨rfl, rfl⟩

set_option maxRecDepth 100000 in
set_option maxHeartbeats 1600000 in
theorem TabulateNewton_b (B : Nat) (v : Value) (m n : Nat) (c : Nat → Int) (w : World) (h : Rd w B v m 1 (tab m c)) (hB : B ≤ w.heap.size) (h1 : 1 ≤ m) (hm : m ≤ 5) (hS : Small 20 m c) (hn1 : 1 ≤ n) (hn : n ≤ 14) :
    Calls Try.prog 17 #[v, .int .i64 (n : Int)] w (RetF0 w n (fun x => nval c x m)) := by
  have H := Lib.hid h
  have HC := Lib.hid (areCoefs_any B v m c w h h1 (by omega) (hS.more (by omega)))
  have HI := Lib.hid (fun wx => between_any (n : Int) 1 30 wx)
  rw [inB_true (by omega) (by omega)] at HI
  have HV := Lib.hid (fun x hx wx hxr => newtonValue_any B v m 20 x c wx hxr h1 (by omega) hx hS (by omega))
  have HN := Lib.hid (fun x hx => nval_bd hS (x := x) hx (by omega) m (Nat.le_refl _))
  have HA := Lib.hid (fun Bx wx vx hx => areValues_b Bx vx n (fun x => nval c x m) wx hx hn1 (by omega) (fun x hx => by
    have nb := nval_bd hS (x := x) (by omega) (by omega) m (Nat.le_refl _)
    have hmm : m * (20 * 1716) ≤ 5 * (20 * 1716) := Nat.mul_le_mul_right _ hm
    show _ ≤ nval c x m ∧ nval c x m ≤ _
    omega))
  obtain ⟨A, c', rfl⟩ := rd_sl h
  clear h hS
  have hb0 := Lib.hid ((Below.refl w.heap.size w).alloc (Nat.le_refl _) (.cells #[] 2))
  have ho0 := Lib.hid (World.ownsRow_made (base := w.heap.size) (e := 2) (size := 1) w #[] 0 (Nat.le_refl _) (by simp [maxLen]) rfl)
  go_enter Try.func17, Try.ntmps17
  go_wp2_with fail
  refine (HC.out).mono ?_; rintro e w1 ⟨rfl, rfl⟩
  go_wp2_with fail
  refine (HI.out _).mono ?_; rintro e w1 ⟨rfl, rfl⟩
  go_wp2_with fail
  go_loopw [6, 18] (fun a i wr => ∃ j : Nat, j ≤ n ∧ i = .int .i64 (j : Int) ∧ wr.ownsRow w.heap.size 2 1 a j (tab j (fun x => nval c x m)) ∧ Below w.heap.size w wr) (fun _ i _ => n - (intOf i).toNat)
  case atStart => exact ⟨0, Nat.zero_le _, rfl, ho0.out, hb0.out⟩
  case round =>
    obtain ⟨j, hj, rfl, hown, hbl⟩ := hrel
    obtain ⟨A3, c3, rfl⟩ := own_sl hown
    have Hown := Lib.hid hown
    have Hbl := Lib.hid hbl
    clear hown hbl
    by_cases hlt : j < n
    · have hlt' : (j : Int) < (n : Int) := by omega
      have HVj := Lib.hid (HV.out j (by omega) wr (H.out.below (Hbl.out.mono hB)))
      have nb := HN.out j (by omega)
      have hmm : m * (20 * 1716) ≤ 5 * (20 * 1716) := Nat.mul_le_mul_right _ hm
      have Hsc := Lib.hid (tab_succ j (fun x => nval c x m))
      (try dsimp only at Hsc)
      generalize nval c j m = y at *
      clear nb hmm
      go_wp2_with fail
      refine (HVj.out).mono ?_; rintro e w1 ⟨rfl, rfl⟩
      go_wp2_with (at_builtin; refine wpList_apd 24 2 _ 1 8 Try.underlying24 infoD rfl (by omega) _ _ rfl rfl w.heap.size _ j _ rfl Hown.out #[.int .i64 (y)] 1 1 rfl rfl (by simp [Value.oneCell']) (by simp [maxLen]; omega) (by omega) Hbl.out.size ?_; intro v7 w7 hown7 hg7; have Hb7 := Lib.hid (below_apd Hbl.out Hown.out hg7 (Nat.le_refl _) Hbl.out.size); obtain ⟨A7, c7, rfl⟩ := own_sl hown7; have Hown7 := Lib.hid hown7; clear hown7 hg7)
      go_roundw
      case rel => exact ⟨j + 1, by omega, by go_num, by rw [Hsc.out]; exact Hown7.out, Hb7.out⟩
      case measure => first | (simp [intOf]; done) | (simp [intOf]; omega)
    · have hjn : j = n := by omega
      have hlt' : (n : Int) ≤ (j : Int) := by omega
      subst hjn
      have HAn := Lib.hid (HA.out wr.heap.size wr _ (Rd.of_own Hown.out))
      go_wp2_with fail
      refine (HAn.out).mono ?_; rintro e w1 ⟨rfl, rfl⟩
      go_wp2_with fail
      go_ret2
      exact ⟨_, rfl, Hown.out, Hbl.out⟩

set_option maxRecDepth 100000 in
set_option maxHeartbeats 1600000 in
theorem a2Same_b (B1 B2 : Nat) (v1 v2 : Value) (n : Nat) (f g : Nat → Int) (w : World) (h : Rd w B1 v1 n 1 (tab n f)) (h' : Rd w B2 v2 n 1 (tab n g)) (hn : n ≤ 1000) (he : ∀ i, i < n → f i = g i) :
    Calls Try.prog 24 #[v1, v2] w fun e w' => e = .returned (.bool true) ∧ ∃ k, w' = w.drewN k := by
  have H := Lib.hid h
  have H' := Lib.hid h'
  have HE := Lib.hid he
  obtain ⟨A, c, rfl⟩ := rd_sl h
  obtain ⟨A', c', rfl⟩ := rd_sl h'
  clear h h' he
  go_enter Try.func24, Try.ntmps24
  go_wp2_with fail
  go_loopw [5] (fun i wr => ∃ (k d : Nat), k ≤ n ∧ i = .int .i64 (k : Int) ∧ wr = w.drewN d) (fun i _ => n - (intOf i).toNat)
  case atStart => exact ⟨0, 0, Nat.zero_le _, rfl, rfl⟩
  case round =>
    obtain ⟨k, d, hk, rfl, rfl⟩ := hrel
    by_cases hlt : k < n
    · obtain ⟨b1, o1, hA, _, hcc⟩ := rdF_all H.out (by omega)
      obtain ⟨b2, o2, hA', _, hcc'⟩ := rdF_all H'.out (by omega)
      subst hA hA'
      have q0 := hcc k hlt
      have q1 := hcc' k hlt
      rw [← HE.out k hlt] at q1
      have hlt' : (k : Int) < (n : Int) := by omega
      generalize f k = x at *
      clear hcc hcc'
      go_wp2_with fail
      go_quiet (fail)
      go_wp2_with fail
      go_roundw
      case rel => exact ⟨k + 1, d + _, by omega, by go_num, rfl⟩
      case measure => first | (simp [intOf]; done) | (simp [intOf]; omega)
    · have hlt' : (n : Int) ≤ (k : Int) := by omega
      go_wp2_with fail
      go_ret
      exact ⟨rfl, d, rfl⟩
end Go.Proofs.Ytddiielbmjkppaa
