/- Trains, part 4: the ratio of a train. -/
import Derived.Test.YtddiielbmjkppaaTr3
namespace Go.Proofs.Ytddiielbmjkppaa
open Go.RowKit Go.Joins

set_option maxRecDepth 100000 in
set_option maxHeartbeats 1600000 in
theorem ratio_any (B : Nat) (v : Value) (n : Nat) (a b : Nat → Nat) (w : World) (h : Rd w B v n 2 (tab2 n a b)) (hB : B ≤ w.heap.size) (h6 : n ≤ 6) (ht : Teeth n a b) :
    Calls Try.prog 188 #[v] w (RetQ (rt a b n).1 (rt a b n).2 w) := by
  have H := Lib.hid h
  have HT := Lib.hid ht
  have HB := Lib.hid (fun k hk => rt_bd h6 ht k hk)
  obtain ⟨A, c, rfl⟩ := rd_sl h
  have Hst := Lib.hid (RtAt.start w)
  have hn6 : (n : Int) ≤ 6 := by omega
  clear h ht
  go_enter Try.func188, Try.ntmps188
  go_wp2_with fail
  go_loopw [9] (fun i wr => ∃ k : Nat, k ≤ n ∧ i = .int .i64 (k : Int) ∧ RtAt w wr (rt a b k).1 (rt a b k).2) (fun i _ => n - (intOf i).toNat)
  case atStart => exact ⟨0, Nat.zero_le _, rfl, Hst.out⟩
  case round =>
    obtain ⟨k, hk, rfl, hrt⟩ := hrel
    have Hrt := Lib.hid hrt
    obtain ⟨f0, f1, _, _⟩ := blk2 hrt.own
    clear hrt
    by_cases hlt : k < n
    · obtain ⟨g, o, hA, hg, q0, q1⟩ := rd2_at (H.out.below (Hrt.out.bel.mono hB)) k hlt
      subst hA
      obtain ⟨t1, t2, t3, t4⟩ := HT.out k hlt
      have hlt' : (k : Int) < (n : Int) := by omega
      obtain ⟨b1, b2, b3, b4⟩ := HB.out k hk
      have Hn1 := Lib.hid (show (rt a b (k + 1)).1 = lowN (-(rt a b k).1 * (a k : Int)) ((rt a b k).2 * b k) from rfl)
      have Hn2 := Lib.hid (show (rt a b (k + 1)).2 = lowD (-(rt a b k).1 * (a k : Int)) ((rt a b k).2 * b k) from rfl)
      generalize (rt a b k).1 = N at *
      generalize (rt a b k).2 = D at *
      generalize a k = x at *
      generalize b k = y at *
      have m1 := abs_mul (A := 2985984000000) (B := 120) (a := -N) (b := (x : Int)) (by omega) (by omega)
      have m2 : D * y ≤ 2985984000000 * 120 := Nat.mul_le_mul b2 t4
      have m3 : 0 < D * y := Nat.mul_pos b1 (by omega)
      have m4 : (D : Int) * (y : Int) = ((D * y : Nat) : Int) := (Int.natCast_mul _ _).symm
      generalize hP : -N * (x : Int) = P at *
      generalize D * y = E at *
      have hNb : -2985984000000 ≤ N ∧ N ≤ 2985984000000 := by omega
      have hw1 : IntKind.i64.wrap P = P := IntWalk.i64_in _ (by omega)
      have hw2 : IntKind.i64.wrap (E : Int) = (E : Int) := IntWalk.i64_in _ (by omega)
      have hPb : -358318080000000 ≤ P ∧ P ≤ 358318080000000 := by omega
      have hEb : (E : Int) ≤ 358318080000000 := by omega
      have Hb2 := Lib.hid ((Below.refl wr.heap.size wr).alloc (Nat.le_refl _) (.cells #[.int .i64 (x : Int), .int .i64 (y : Int)] 179))
      have HL := Lib.hid (fun wx => lowest_any P E wx (by omega) (by omega) m3)
      unfold RetQ at HL
      have z0 := cell_alloc f0 (.cells #[.int .i64 (x : Int), .int .i64 (y : Int)] 179)
      have z1 := cell_alloc f1 (.cells #[.int .i64 (x : Int), .int .i64 (y : Int)] 179)
      clear m1 m2 m3 b1 b2 b3 b4 t1 t2 t3 t4
      go_wp2_with fail
      refine (HL.out _).mono ?_; rintro e w2 ⟨rfl, hb2⟩
      have hrt2 := Hrt.out.below (Hb2.out.trans (hb2.mono (by simp)))
      obtain ⟨k0, k1, k2, k3⟩ := blk2 hrt2.own
      have Hrt3 := Lib.hid (hrt2.put (N' := lowN P E) (D' := lowD P E))
      clear hrt2 hb2
      go_wp2_with fail
      go_roundw
      case rel => exact ⟨k + 1, by omega, by go_num, by rw [Hn1.out, Hn2.out]; exact Hrt3.out⟩
      case measure => first | (simp [intOf]; done) | (simp [intOf]; omega)
    · obtain rfl : k = n := by omega
      obtain ⟨r0, r1, y0, y1⟩ := blk2 Hrt.out.res
      obtain ⟨e0, e1, hbe⟩ := Hrt.out.done (.int .i64 (rt a b k).1) (.int .i64 ((rt a b k).2 : Int))
      have He0 := Lib.hid e0
      have He1 := Lib.hid e1
      have Hbe := Lib.hid hbe
      clear e0 e1 hbe
      go_wp2_with fail
      exact bodyPost_ret (v := .agg #[.int .i64 (rt a b k).1, .int .i64 ((rt a b k).2 : Int)]) (by simp [results, Try.results188, go_sem, He0.out, He1.out]) rfl ⟨rfl, Hbe.out⟩

set_option maxRecDepth 100000 in
set_option maxHeartbeats 1600000 in
theorem l04Ratio_any (B : Nat) (v : Value) (n : Nat) (a b : Nat → Nat) (w : World) (h : Rd w B v n 2 (tab2 n a b)) (hB : B ≤ w.heap.size) (h6 : n ≤ 6) (ht : Teeth n a b) :
    Calls Try.prog 190 #[v] w (RetQ (rt a b n).1 (rt a b n).2 w) := by
  have H := Lib.hid h
  have HT := Lib.hid ht
  have HB := Lib.hid (fun k hk => rt_bd h6 ht k hk)
  obtain ⟨A, c, rfl⟩ := rd_sl h
  have Hst := Lib.hid (RtAt.start w)
  have hn6 : (n : Int) ≤ 6 := by omega
  clear h ht
  go_enter Try.func190, Try.ntmps190
  go_wp2_with fail
  go_loopw [4] (fun i wr => ∃ k : Nat, k ≤ n ∧ i = .int .i64 (k : Int) ∧ RtAt w wr (rt a b k).1 (rt a b k).2) (fun i _ => n - (intOf i).toNat)
  case atStart => exact ⟨0, Nat.zero_le _, rfl, Hst.out⟩
  case round =>
    obtain ⟨k, hk, rfl, hrt⟩ := hrel
    have Hrt := Lib.hid hrt
    obtain ⟨f0, f1, _, _⟩ := blk2 hrt.own
    clear hrt
    by_cases hlt : k < n
    · obtain ⟨g, o, hA, hg, q0, q1⟩ := rd2_at (H.out.below (Hrt.out.bel.mono hB)) k hlt
      subst hA
      obtain ⟨t1, t2, t3, t4⟩ := HT.out k hlt
      have hlt' : (k : Int) < (n : Int) := by omega
      obtain ⟨b1, b2, b3, b4⟩ := HB.out k hk
      have Hn1 := Lib.hid (show (rt a b (k + 1)).1 = lowN (-(rt a b k).1 * (a k : Int)) ((rt a b k).2 * b k) from rfl)
      have Hn2 := Lib.hid (show (rt a b (k + 1)).2 = lowD (-(rt a b k).1 * (a k : Int)) ((rt a b k).2 * b k) from rfl)
      generalize (rt a b k).1 = N at *
      generalize (rt a b k).2 = D at *
      generalize a k = x at *
      generalize b k = y at *
      have m1 := abs_mul (A := 2985984000000) (B := 120) (a := -N) (b := (x : Int)) (by omega) (by omega)
      have m2 : D * y ≤ 2985984000000 * 120 := Nat.mul_le_mul b2 t4
      have m3 : 0 < D * y := Nat.mul_pos b1 (by omega)
      have m4 : (D : Int) * (y : Int) = ((D * y : Nat) : Int) := (Int.natCast_mul _ _).symm
      generalize hP : -N * (x : Int) = P at *
      generalize D * y = E at *
      have hNw : IntKind.i64.wrap (-N) = -N := IntWalk.i64_in _ (by omega)
      have hw1 : IntKind.i64.wrap P = P := IntWalk.i64_in _ (by omega)
      have hw2 : IntKind.i64.wrap (E : Int) = (E : Int) := IntWalk.i64_in _ (by omega)
      have HL := Lib.hid (l04Make_any P E wr.drew (by omega) (by omega) m3)
      unfold RetQ at HL
      clear m1 m2 m3 b1 b2 b3 b4 t1 t2 t3 t4
      go_wp2_with fail
      go_region_law ((first
        | (go_simp; go_at_call 313; refine HL.out.mono ?_; rintro e w2 ⟨rfl, hb2⟩; have hrt2 := Hrt.out.below (below_undrew hb2); obtain ⟨k0, k1, k2, k3⟩ := blk2 hrt2.own; have Hrt3 := Lib.hid (hrt2.put (N' := lowN P E) (D' := lowD P E)); clear hrt2 hb2)))
      all_goals
        (try go_wp2_with fail)
        go_roundw
        case rel => exact ⟨k + 1, by omega, by go_num, by rw [Hn1.out, Hn2.out]; exact Hrt3.out⟩
        case measure => first | (simp [intOf]; done) | (simp [intOf]; omega)
    · obtain rfl : k = n := by omega
      obtain ⟨r0, r1, y0, y1⟩ := blk2 Hrt.out.res
      obtain ⟨e0, e1, hbe⟩ := Hrt.out.done (.int .i64 (rt a b k).1) (.int .i64 ((rt a b k).2 : Int))
      have He0 := Lib.hid e0
      have He1 := Lib.hid e1
      have Hbe := Lib.hid hbe
      clear e0 e1 hbe
      go_wp2_with fail
      exact bodyPost_ret (v := .agg #[.int .i64 (rt a b k).1, .int .i64 ((rt a b k).2 : Int)]) (by simp [results, Try.results190, go_sem, He0.out, He1.out]) rfl ⟨rfl, Hbe.out⟩
end Go.Proofs.Ytddiielbmjkppaa
