/- Trains, part 2: divisors and lowest terms in the program and in the reference. -/
import Derived.Test.YtddiielbmjkppaaTr1
import Derived.Test.YtddiielbmjkppaaLib5
import Derived.Test.YtddiielbmjkppaaDd1
namespace Go.Proofs.Ytddiielbmjkppaa
open Go.RowKit Go.Joins

theorem gcd_step (a b : Nat) : Nat.gcd b (a % b) = Nat.gcd a b := by rw [Nat.gcd_comm, ← Nat.gcd_rec, Nat.gcd_comm]
set_option maxRecDepth 100000 in
set_option maxHeartbeats 1600000 in
theorem divisor_any (a b : Nat) (w : World) (ha : a ≤ 4611686018427387904) (hb : b ≤ 4611686018427387904) :
    Calls Try.prog 191 #[.int .i64 (a : Int), .int .i64 (b : Int)] w fun e w' => e = .returned (.int .i64 (Nat.gcd a b : Int)) ∧ ∃ k, w' = w.drewN k := by
  go_enter Try.func191, Try.ntmps191
  go_wp2_with fail
  go_loopw [0, 1] (fun x y wr => ∃ p q k : Nat, p ≤ 4611686018427387904 ∧ q ≤ 4611686018427387904 ∧ Nat.gcd p q = Nat.gcd a b ∧ x = .int .i64 (p : Int) ∧ y = .int .i64 (q : Int) ∧ wr = w.drewN k) (fun _ y _ => (intOf y).toNat)
  case atStart => exact ⟨a, b, 0, ha, hb, rfl, rfl, rfl, rfl⟩
  case round =>
    obtain ⟨p, q, k, hp, hq, hg, rfl, rfl, rfl⟩ := hrel
    have Hg := Lib.hid hg
    clear hg
    by_cases h0 : q = 0
    · subst h0
      have hpg : p = Nat.gcd a b := by have := Hg.out; rwa [Nat.gcd_zero_right] at this
      have Hpg := Lib.hid hpg
      clear hpg
      go_wp2_with fail
      go_ret
      exact ⟨ret_int (by rw [Hpg.out]), k, rfl⟩
    · have h1 : ((q : Int) == 0) = false := by simp; omega
      have h2 : (q : Int) ≠ 0 := by omega
      have h3 : ((q : Int) != 0) = true := by simp; omega
      have hlt := Nat.mod_lt p (show 0 < q by omega)
      have Hn := Lib.hid (gcd_step p q)
      have e1 : Int.tmod (p : Int) (q : Int) = ((p % q : Nat) : Int) := by rw [Int.tmod_eq_emod_of_nonneg (by omega)]; exact (Int.natCast_emod _ _).symm
      have e2 : (p : Int) % (q : Int) = ((p % q : Nat) : Int) := (Int.natCast_emod _ _).symm
      generalize p % q = r at *
      have Hlt := Lib.hid hlt
      clear h0
      go_wp2_with fail
      go_quiet (fail)
      clear e1 e2
      go_wp2_with fail
      go_roundw
      case rel => exact ⟨q, r, k + nq, hq, by omega, by rw [Hn.out]; exact Hg.out, rfl, rfl, by first | rfl | exact World.drewN_drewN _ _ _⟩
      case measure =>
        have := Hlt.out
        first | (simp [intOf]; done) | (simp [intOf]; omega)
set_option maxRecDepth 100000 in
set_option maxHeartbeats 1600000 in
theorem l04Gcd_any (a b : Nat) (w : World) (ha : a ≤ 4611686018427387904) (hb : b ≤ 4611686018427387904) :
    Calls Try.prog 321 #[.int .i64 (a : Int), .int .i64 (b : Int)] w fun e w' => e = .returned (.int .i64 (Nat.gcd a b : Int)) ∧ w = w' := by
  go_enter Try.func321, Try.ntmps321
  go_wp2_with fail
  go_loop [0, 1] (fun x y => ∃ p q : Nat, p ≤ 4611686018427387904 ∧ q ≤ 4611686018427387904 ∧ Nat.gcd p q = Nat.gcd a b ∧ x = .int .i64 (p : Int) ∧ y = .int .i64 (q : Int)) (fun _ y => (intOf y).toNat)
  case atStart => exact ⟨a, b, ha, hb, rfl, rfl, rfl⟩
  case round =>
    obtain ⟨p, q, hp, hq, hg, rfl, rfl⟩ := hrel
    have Hg := Lib.hid hg
    clear hg
    by_cases h0 : q = 0
    · subst h0
      have hpg : p = Nat.gcd a b := by have := Hg.out; rwa [Nat.gcd_zero_right] at this
      have Hpg := Lib.hid hpg
      clear hpg
      go_wp2_with fail
      go_ret
      exact ⟨ret_int (by rw [Hpg.out]), rfl⟩
    · have h1 : ((q : Int) == 0) = false := by simp; omega
      have h2 : (q : Int) ≠ 0 := by omega
      have h3 : ((q : Int) != 0) = true := by simp; omega
      have hlt := Nat.mod_lt p (show 0 < q by omega)
      have Hn := Lib.hid (gcd_step p q)
      have e1 : Int.tmod (p : Int) (q : Int) = ((p % q : Nat) : Int) := by rw [Int.tmod_eq_emod_of_nonneg (by omega)]; exact (Int.natCast_emod _ _).symm
      have e2 : (p : Int) % (q : Int) = ((p % q : Nat) : Int) := (Int.natCast_emod _ _).symm
      generalize p % q = r at *
      have Hlt := Lib.hid hlt
      clear h0
      go_wp2_with fail
      go_round
      case rel => exact ⟨q, r, hq, by omega, by rw [Hn.out]; exact Hg.out, rfl, rfl⟩
      case measure =>
        have := Hlt.out
        first | (simp [intOf]; done) | (simp [intOf]; omega)
theorem l04Size_b (x : Int) (w : World) (h1 : -4611686018427387904 ≤ x) (h2 : x ≤ 4611686018427387904) :
    Calls Try.prog 312 #[.int .i64 x] w fun e w' => e = .returned (.int .i64 (x.natAbs : Int)) ∧ w = w' := by
  by_cases h : x < 0
  · have hw : IntKind.i64.wrap (-x) = -x := IntWalk.i64_in _ (by omega)
    go_enter Try.func312, Try.ntmps312
    go_wp2_with fail
    go_ret
    exact ⟨ret_int (by omega), rfl⟩
  · go_enter Try.func312, Try.ntmps312
    go_wp2_with fail
    go_ret
    exact ⟨ret_int (by omega), rfl⟩

/-- a fraction is handed back -/
def RetQ (N : Int) (D : Nat) (w : World) (e : Ending) (w' : World) : Prop := e = .returned (.agg #[.int .i64 N, .int .i64 (D : Int)]) ∧ Below w.heap.size w w'
set_option maxRecDepth 100000 in
set_option maxHeartbeats 1600000 in
theorem lowest_any (N : Int) (D : Nat) (w : World) (hN : -4611686018427387904 ≤ N ∧ N ≤ 4611686018427387904) (hD : D ≤ 4611686018427387904) (h0 : 0 < D) :
    Calls Try.prog 192 #[.int .i64 N, .int .i64 (D : Int)] w (RetQ (lowN N D) (lowD N D) w) := by
  have hg := low_g (N := N) h0
  have hgd : Nat.gcd N.natAbs D ≤ D := Nat.le_of_dvd h0 (Nat.gcd_dvd_right _ _)
  have hbd := low_bd N D
  have hle := low_le (N := N) h0
  have e1 : Int.tdiv N (Nat.gcd N.natAbs D : Int) = lowN N D := rfl
  have e2 : Int.tdiv (D : Int) (Nat.gcd N.natAbs D : Int) = (lowD N D : Int) := by rw [Int.tdiv_eq_ediv_of_nonneg (by omega)]; exact (Int.natCast_ediv _ _).symm
  have e3 : (D : Int) / (Nat.gcd N.natAbs D : Int) = (lowD N D : Int) := (Int.natCast_ediv _ _).symm
  have HA := Lib.hid (fun wx => absolute_any N wx hN.1 hN.2)
  have HG := Lib.hid (fun wx => divisor_any N.natAbs D wx (by omega) hD)
  generalize Nat.gcd N.natAbs D = g at *
  generalize lowN N D = x at *
  generalize lowD N D = y at *
  have hx1 : -4611686018427387904 ≤ x := by omega
  have hx2 : x ≤ 4611686018427387904 := by omega
  have hy2 : (y : Int) ≤ 4611686018427387904 := by omega
  have hg0 : (g : Int) ≠ 0 := by omega
  have hg1 : (0 : Int) < (g : Int) := by omega
  have hgn : g ≠ 0 := by omega
  have hwx : IntKind.i64.wrap x = x := IntWalk.i64_in _ (by omega)
  have hwy : IntKind.i64.wrap (y : Int) = (y : Int) := IntWalk.i64_in _ (by omega)
  obtain ⟨p0, p1, p2, p3⟩ := blk2 (heap_alloc_new w (.cells #[.int .i64 0, .int .i64 0] 47))
  have Hq := Lib.hid (fun n => res2_post (w := w) (x := .int .i64 0) (y := .int .i64 0) (t := 47) (below_drewN (Below.refl _ _) n) (.int .i64 x) (.int .i64 (y : Int)))
  clear hbd hle
  go_enter Try.func192, Try.ntmps192
  go_wp2_with fail
  refine (HA.out _).mono ?_; rintro e w1 ⟨rfl, rfl⟩
  go_wp2_with fail
  refine (HG.out _).mono ?_; rintro e w2 ⟨rfl, k, rfl⟩
  go_wp2_with fail
  generalize hw1 : w.alloc (.cells #[.int .i64 0, .int .i64 0] 47) = w1 at *
  clear hw1
  go_region_law (fail)
  all_goals
    (try go_wp2_with fail)
    obtain ⟨q0, q1, hbe⟩ := Hq.out (k + 1)
    exact bodyPost_ret (v := .agg #[.int .i64 x, .int .i64 (y : Int)]) (by simp [results, Try.results192, go_sem, q0, q1]) rfl ⟨rfl, hbe⟩
set_option maxRecDepth 100000 in
set_option maxHeartbeats 1600000 in
theorem l04Make_any (N : Int) (D : Nat) (w : World) (hN : -4611686018427387904 ≤ N ∧ N ≤ 4611686018427387904) (hD : D ≤ 4611686018427387904) (h0 : 0 < D) :
    Calls Try.prog 313 #[.int .i64 N, .int .i64 (D : Int)] w (RetQ (lowN N D) (lowD N D) w) := by
  have hg := low_g (N := N) h0
  have hgd : Nat.gcd N.natAbs D ≤ D := Nat.le_of_dvd h0 (Nat.gcd_dvd_right _ _)
  have hbd := low_bd N D
  have hle := low_le (N := N) h0
  have e1 : Int.tdiv N (Nat.gcd N.natAbs D : Int) = lowN N D := rfl
  have e2 : Int.tdiv (D : Int) (Nat.gcd N.natAbs D : Int) = (lowD N D : Int) := by rw [Int.tdiv_eq_ediv_of_nonneg (by omega)]; exact (Int.natCast_ediv _ _).symm
  have e3 : (D : Int) / (Nat.gcd N.natAbs D : Int) = (lowD N D : Int) := (Int.natCast_ediv _ _).symm
  have HA := Lib.hid (fun wx => l04Size_b N wx hN.1 hN.2)
  have HG := Lib.hid (fun wx => l04Gcd_any N.natAbs D wx (by omega) hD)
  generalize Nat.gcd N.natAbs D = g at *
  generalize lowN N D = x at *
  generalize lowD N D = y at *
  have hx1 : -4611686018427387904 ≤ x := by omega
  have hx2 : x ≤ 4611686018427387904 := by omega
  have hy2 : (y : Int) ≤ 4611686018427387904 := by omega
  have hg0 : (g : Int) ≠ 0 := by omega
  have hg1 : (0 : Int) < (g : Int) := by omega
  have hgn : g ≠ 0 := by omega
  have hwx : IntKind.i64.wrap x = x := IntWalk.i64_in _ (by omega)
  have hwy : IntKind.i64.wrap (y : Int) = (y : Int) := IntWalk.i64_in _ (by omega)
  obtain ⟨p0, p1, p2, p3⟩ := blk2 (heap_alloc_new w (.cells #[.int .i64 0, .int .i64 0] 47))
  have Hq := Lib.hid (fun (_ : Nat) => res2_post (w := w) (x := .int .i64 0) (y := .int .i64 0) (t := 47) (Below.refl _ _) (.int .i64 x) (.int .i64 (y : Int)))
  clear hbd hle
  go_enter Try.func313, Try.ntmps313
  go_wp2_with fail
  refine (HA.out _).mono ?_; rintro e w1 ⟨rfl, rfl⟩
  go_wp2_with fail
  refine (HG.out _).mono ?_; rintro e w1 ⟨rfl, rfl⟩
  go_wp2_with fail
  generalize hw1 : w.alloc (.cells #[.int .i64 0, .int .i64 0] 47) = w1 at *
  clear hw1
  go_region_law (fail)
  all_goals
    (try go_wp2_with fail)
    obtain ⟨q0, q1, hbe⟩ := Hq.out 1
    exact bodyPost_ret (v := .agg #[.int .i64 x, .int .i64 (y : Int)]) (by simp [results, Try.results313, go_sem, q0, q1]) rfl ⟨rfl, hbe.drew⟩
end Go.Proofs.Ytddiielbmjkppaa
