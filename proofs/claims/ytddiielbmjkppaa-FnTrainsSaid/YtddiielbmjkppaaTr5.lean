/- Trains, part 5: ratios with a code, turns of the last wheel, the least turns. -/
import Derived.Test.YtddiielbmjkppaaTr4
namespace Go.Proofs.Ytddiielbmjkppaa
open Go.RowKit Go.Joins

theorem rd2N {w w' : World} {B : Nat} {v : Value} {n : Nat} {cs : List Value} (h : Rd w B v n 2 cs) (hb : Below B w w') : Rd w' B v n 2 cs := h.below hb
/-- a fraction and the code 0 are handed back -/
def RetQ0 (N : Int) (D : Nat) (w : World) (e : Ending) (w' : World) : Prop := e = .returned (.tuple #[.agg #[.int .i64 N, .int .i64 (D : Int)], .int .i64 0]) ∧ Below w.heap.size w w'
set_option maxRecDepth 100000 in
set_option maxHeartbeats 1600000 in
theorem RatioOf_any (B : Nat) (v : Value) (n : Nat) (a b : Nat → Nat) (w : World) (h : Rd w B v n 2 (tab2 n a b)) (hB : B ≤ w.heap.size) (h1 : 1 ≤ n) (h6 : n ≤ 6) (ht : Teeth n a b) :
    Calls Try.prog 33 #[v] w (RetQ0 (rt a b n).1 (rt a b n).2 w) := by
  have hb1 := (Below.refl w.heap.size w).alloc (Nat.le_refl _) (.cells #[.int .i64 0, .int .i64 0] 47)
  have HV := Lib.hid (ValidTrain_any B v n a b _ (h.below (hb1.mono hB)) (Nat.le_trans hB hb1.size) h1 h6 ht)
  have HR := Lib.hid (fun wx hx hz => ratio_any B v n a b wx hx hz h6 ht)
  have H := Lib.hid (h.below (hb1.mono hB))
  have hsz := Nat.le_trans hB hb1.size
  have HP := Lib.hid (res2_all w (.int .i64 0) (.int .i64 0) 47 (.int .i64 (rt a b n).1) (.int .i64 ((rt a b n).2 : Int)))
  obtain ⟨A, c, rfl⟩ := rd_sl h
  unfold RetQ at HR
  clear h hb1
  generalize (rt a b n).1 = N at *
  generalize (rt a b n).2 = D at *
  go_enter Try.func33, Try.ntmps33
  go_wp2_with fail
  generalize hw1 : w.alloc (.cells #[.int .i64 0, .int .i64 0] 47) = w1 at *
  clear hw1
  refine (HV.out).mono ?_; rintro e w2 ⟨rfl, hb2⟩
  have HR2 := Lib.hid (HR.out w2 (H.out.below (hb2.mono hsz)) (Nat.le_trans hsz hb2.size))
  have Hb2 := Lib.hid hb2
  clear hb2 HV
  go_wp2_with fail
  refine (HR2.out).mono ?_; rintro e w3 ⟨rfl, hb3⟩
  obtain ⟨⟨p0, p1, p2, p3⟩, q0, q1, hbe⟩ := HP.out w3 (Hb2.out.trans (hb3.mono Hb2.out.size))
  have Hq0 := Lib.hid q0
  have Hq1 := Lib.hid q1
  have Hbe := Lib.hid hbe
  clear q0 q1 hbe hb3
  go_wp2_with fail
  exact bodyPost_ret (v := .tuple #[.agg #[.int .i64 N, .int .i64 (D : Int)], .int .i64 0]) (by simp [results, Try.results33, go_sem, Hq0.out, Hq1.out]) rfl ⟨rfl, Hbe.out⟩
set_option maxRecDepth 100000 in
set_option maxHeartbeats 1600000 in
theorem RatioOfS_any (B : Nat) (v : Value) (n : Nat) (a b : Nat → Nat) (w : World) (h : Rd w B v n 2 (tab2 n a b)) (hB : B ≤ w.heap.size) (h1 : 1 ≤ n) (h6 : n ≤ 6) (ht : Teeth n a b) :
    Calls Try.prog 34 #[v] w (RetQ0 (rt a b n).1 (rt a b n).2 w) := by
  have hb1 := (Below.refl w.heap.size w).alloc (Nat.le_refl _) (.cells #[.int .i64 0, .int .i64 0] 47)
  have HV := Lib.hid (l04Ok_any B v n a b _ (h.below (hb1.mono hB)) h1 h6 ht)
  have HR := Lib.hid (l04Ratio_any B v n a b _ (h.below (hb1.mono hB)) (Nat.le_trans hB hb1.size) h6 ht)
  have HP := Lib.hid (res2_all w (.int .i64 0) (.int .i64 0) 47 (.int .i64 (rt a b n).1) (.int .i64 ((rt a b n).2 : Int)))
  obtain ⟨A, c, rfl⟩ := rd_sl h
  unfold RetQ at HR
  clear h hb1
  generalize (rt a b n).1 = N at *
  generalize (rt a b n).2 = D at *
  go_enter Try.func34, Try.ntmps34
  go_wp2_with fail
  generalize hw1 : w.alloc (.cells #[.int .i64 0, .int .i64 0] 47) = w1 at *
  clear hw1
  refine (HV.out).mono ?_; rintro e w1 ⟨rfl, rfl⟩
  go_wp2_with fail
  refine (HR.out).mono ?_; rintro e w3 ⟨rfl, hb3⟩
  obtain ⟨⟨p0, p1, p2, p3⟩, q0, q1, hbe⟩ := HP.out w3 hb3
  have Hq0 := Lib.hid q0
  have Hq1 := Lib.hid q1
  have Hbe := Lib.hid hbe
  clear q0 q1 hbe hb3
  go_wp2_with fail
  exact bodyPost_ret (v := .tuple #[.agg #[.int .i64 N, .int .i64 (D : Int)], .int .i64 0]) (by simp [results, Try.results34, go_sem, Hq0.out, Hq1.out]) rfl ⟨rfl, Hbe.out⟩

set_option maxRecDepth 100000 in
set_option maxHeartbeats 1600000 in
theorem OutputTurns_any (B : Nat) (v : Value) (n t : Nat) (a b : Nat → Nat) (w : World) (h : Rd w B v n 2 (tab2 n a b)) (hB : B ≤ w.heap.size) (h1 : 1 ≤ n) (h6 : n ≤ 6) (ht : Teeth n a b) (htn : t ≤ 1000) :
    Calls Try.prog 39 #[v, .int .i64 (t : Int)] w (RetQ0 (lowN ((rt a b n).1 * (t : Int)) (rt a b n).2) (lowD ((rt a b n).1 * (t : Int)) (rt a b n).2) w) := by
  have hb1 := (Below.refl w.heap.size w).alloc (Nat.le_refl _) (.cells #[.int .i64 0, .int .i64 0] 47)
  have HV := Lib.hid (ValidTrain_any B v n a b _ (h.below (hb1.mono hB)) (Nat.le_trans hB hb1.size) h1 h6 ht)
  have HR := Lib.hid (fun wx hx hz => ratio_any B v n a b wx hx hz h6 ht)
  have H := Lib.hid (h.below (hb1.mono hB))
  have hsz := Nat.le_trans hB hb1.size
  have HP := Lib.hid (res2_all w (.int .i64 0) (.int .i64 0) 47 (.int .i64 (lowN ((rt a b n).1 * (t : Int)) (rt a b n).2)) (.int .i64 (lowD ((rt a b n).1 * (t : Int)) (rt a b n).2 : Int)))
  have HI := Lib.hid (fun wx => between_any (t : Int) (-1000) 1000 wx)
  rw [inB_true (by omega) (by omega)] at HI
  obtain ⟨A, c, rfl⟩ := rd_sl h
  unfold RetQ at HR
  obtain ⟨b1, b2, b3, b4⟩ := rt_bd h6 ht n (Nat.le_refl _)
  generalize (rt a b n).1 = N at *
  generalize (rt a b n).2 = D at *
  have m1 := abs_mul (A := 2985984000000) (B := 1000) (a := N) (b := (t : Int)) (by omega) (by omega)
  generalize hP : N * (t : Int) = P at *
  have hw1 : IntKind.i64.wrap P = P := IntWalk.i64_in _ (by omega)
  have hPb : -2985984000000000 ≤ P ∧ P ≤ 2985984000000000 := by omega
  have HL := Lib.hid (fun wx => lowest_any P D wx (by omega) (by omega) b1)
  unfold RetQ at HL
  clear h hb1 b1 b2 b3 b4 m1
  go_enter Try.func39, Try.ntmps39
  go_wp2_with fail
  generalize hw1 : w.alloc (.cells #[.int .i64 0, .int .i64 0] 47) = w1 at *
  clear hw1
  refine (HV.out).mono ?_; rintro e w2 ⟨rfl, hb2⟩
  have HR2 := Lib.hid (HR.out w2 (H.out.below (hb2.mono hsz)) (Nat.le_trans hsz hb2.size))
  have Hb2 := Lib.hid hb2
  clear hb2 HV
  go_wp2_with fail
  refine (HI.out _).mono ?_; rintro e w1 ⟨rfl, rfl⟩
  go_wp2_with fail
  refine (HR2.out).mono ?_; rintro e w3 ⟨rfl, hb3⟩
  have Hb3 := Lib.hid ((Hb2.out.trans (hb3.mono Hb2.out.size)).alloc (Nat.le_trans Hb2.out.size hb3.size) (.cells #[.int .i64 N, .int .i64 (D : Int)] 47))
  clear hb3 Hb2
  go_wp2_with fail
  generalize hw4 : w3.alloc (.cells #[.int .i64 N, .int .i64 (D : Int)] 47) = w4 at *
  clear hw4
  refine (HL.out _).mono ?_; rintro e w5 ⟨rfl, hb5⟩
  obtain ⟨⟨p0, p1, p2, p3⟩, q0, q1, hbe⟩ := HP.out w5 (Hb3.out.trans (hb5.mono Hb3.out.size))
  generalize lowN P D = x at *
  generalize lowD P D = y at *
  have Hq0 := Lib.hid q0
  have Hq1 := Lib.hid q1
  have Hbe := Lib.hid hbe
  clear q0 q1 hbe hb5
  go_wp2_with fail
  exact bodyPost_ret (v := .tuple #[.agg #[.int .i64 x, .int .i64 (y : Int)], .int .i64 0]) (by simp [results, Try.results39, go_sem, Hq0.out, Hq1.out]) rfl ⟨rfl, Hbe.out⟩
end Go.Proofs.Ytddiielbmjkppaa
