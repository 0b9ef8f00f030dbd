/- Trains, part 6: the least turns; trains from their ends, joined, and found. -/
import Derived.Test.YtddiielbmjkppaaTr5
import Derived.Test.YtddiielbmjkppaaLib2
namespace Go.Proofs.Ytddiielbmjkppaa
open Go.RowKit Go.Joins

/-- teeth of drawn wheels -/
def Teeth31 (n : Nat) (a b : Nat → Nat) : Prop := ∀ k, k < n → 2 ≤ a k ∧ a k ≤ 31 ∧ 2 ≤ b k ∧ b k ≤ 31
theorem Teeth31.teeth {n : Nat} {a b : Nat → Nat} (h : Teeth31 n a b) : Teeth n a b := fun k hk => by have := h k hk; omega
theorem rt31_bd {n : Nat} {a b : Nat → Nat} (ht : Teeth31 n a b) (k : Nat) (hk : k ≤ n) : 0 < (rt a b k).2 ∧ (rt a b k).2 ≤ 31 ^ k ∧ (rt a b k).1.natAbs ≤ 31 ^ k ∧ (rt a b k).1 ≠ 0 := by
  obtain ⟨h1, h2, h3, h4, _⟩ := rt_all (n := n) (a := a) (b := b) (fun k hk => by have := ht k hk; omega) (fun k hk => by have := ht k hk; omega) k hk
  have e1 := pr_le (a := a) (n := n) (M := 31) (fun k hk => (ht k hk).2.1) k hk
  have e2 := pr_le (a := b) (n := n) (M := 31) (fun k hk => (ht k hk).2.2.2) k hk
  exact ⟨h1, Nat.le_trans h2 e2, Nat.le_trans h3 e1, h4⟩
theorem lt_bd {n : Nat} {a b : Nat → Nat} (h3 : n ≤ 3) (ht : Teeth31 n a b) : ∀ k, k ≤ n → 0 < lt a b k ∧ lt a b k ≤ 887503681 := by
  have hp : ∀ k, k ≤ n → 0 < lt a b k := fun k hk => (lt_all (n := n) (fun k hk => by have := ht k hk; omega) (fun k hk => by have := ht k hk; omega) k hk).1
  have hs : ∀ k, k + 1 ≤ n → lt a b (k + 1) ≤ lt a b k * 31 ^ (k + 1) := fun k hk =>
    Nat.le_trans (lt_step_le (lt a b k) (rt a b (k + 1)).2) (Nat.mul_le_mul_left _ (rt31_bd ht (k + 1) hk).2.1)
  have l1 : ∀ (_ : 1 ≤ n), lt a b 1 ≤ 31 := fun h => by have := hs 0 h; simpa [lt] using this
  have l2 : ∀ (_ : 2 ≤ n), lt a b 2 ≤ 29791 := fun h => by
    have h1 := hs 1 h
    have h2 := l1 (by omega)
    exact Nat.le_trans h1 (Nat.le_trans (Nat.mul_le_mul_right _ h2) (by omega))
  have l3 : ∀ (_ : 3 ≤ n), lt a b 3 ≤ 887503681 := fun h => by
    have h1 := hs 2 h
    have h2 := l2 (by omega)
    exact Nat.le_trans h1 (Nat.le_trans (Nat.mul_le_mul_right _ h2) (by omega))
  intro k hk
  refine ⟨hp k hk, ?_⟩
  obtain rfl | rfl | rfl | rfl : k = 0 ∨ k = 1 ∨ k = 2 ∨ k = 3 := by omega
  · simp [lt]
  · have := l1 hk; omega
  · have := l2 hk; omega
  · exact l3 hk
theorem rd2_head {w : World} {B n k c c2 : Nat} {A : Option Addr} {a b : Nat → Nat} (h : Rd w B (.slice A n c) n 2 (tab2 n a b)) (hk : k ≤ n) : Rd w B (.slice A k c2) k 2 (tab2 k a b) := by
  refine ⟨tab2_len a b k, A, c2, rfl, fun hk0 => ?_⟩
  obtain ⟨_, A', c', hv, hc⟩ := h
  injection hv with e1 e2 e3
  subst e1
  obtain ⟨g, o, hA, hb, hcc⟩ := hc (by omega)
  refine ⟨g, o, hA, hb, fun i u hu => hcc i u ?_⟩
  have hpre : ∀ m, (tab2 (k + m) a b)[i]? = some u := by
    intro m
    induction m with
    | zero => exact hu
    | succ m ih => rw [← Nat.add_assoc, tab2_succ, List.getElem?_append_left (by have := (List.getElem?_eq_some_iff.1 ih).1; exact this)]; exact ih
  have := hpre (n - k)
  rwa [show k + (n - k) = n by omega] at this

theorem run_field_den (N D : Int) (w : World) : (Instr.field 47 (.agg #[.int .i64 N, .int .i64 D]) 1).run Try.prog w = .ok (.int .i64 D) w := by
  unfold Instr.field
  simp [go_sem, part, asAgg]
set_option maxRecDepth 100000 in
set_option maxHeartbeats 3200000 in
theorem LeastTurns_any (B g o n c : Nat) (a b : Nat → Nat) (w : World) (h : Rd w B (.slice (some ⟨g, o, none⟩) n c) n 2 (tab2 n a b)) (hB : B ≤ w.heap.size) (h1 : 1 ≤ n) (h3 : n ≤ 3) (ht : Teeth31 n a b) (hc : n ≤ c) (hc2 : c ≤ maxLen) :
    Calls Try.prog 38 #[.slice (some ⟨g, o, none⟩) n c] w fun e w' => e = .returned (.tuple #[.int .i64 (lt a b n : Int), .int .i64 0]) ∧ Below w.heap.size w w' := by
  have H := Lib.hid h
  have HV := Lib.hid (ValidTrain_any B _ n a b w h hB h1 (by omega) ht.teeth)
  have HR := Lib.hid (fun k wx (hk : k ≤ n) hx hz => ratio_any B (.slice (some ⟨g, o, none⟩) k c) k a b wx hx hz (by omega) (fun j hj => ht.teeth j (by omega)))
  unfold RetQ at HR
  have HRb := Lib.hid (fun k hk => rt31_bd ht k hk)
  have HLb := Lib.hid (fun k hk => lt_bd h3 ht k hk)
  simp only [maxLen] at hc2
  have hn3 : (n : Int) ≤ 3 := by omega
  have hb0 := Lib.hid (Below.refl w.heap.size w)
  clear h ht
  go_enter Try.func38, Try.ntmps38
  go_wp2_with fail
  refine (HV.out).mono ?_; rintro e w1 ⟨rfl, hb1⟩
  have Hb1 := Lib.hid hb1
  clear hb1
  go_wp2_with fail
  go_loopw [4, 12] (fun t i wr => ∃ k : Nat, k ≤ n ∧ i = .int .i64 (k : Int) ∧ t = .int .i64 (lt a b k : Int) ∧ Below w.heap.size w wr) (fun _ i _ => n - (intOf i).toNat)
  case atStart => exact ⟨0, Nat.zero_le _, rfl, rfl, Hb1.out⟩
  case round =>
    obtain ⟨k, hk, rfl, rfl, hbl⟩ := hrel
    have Hbl := Lib.hid hbl
    clear hbl
    by_cases hlt : k < n
    · have hlt' : (k : Int) < (n : Int) := by omega
      have HR2 := Lib.hid (HR.out (k + 1) wr (by omega) (rd2_head (H.out.below (Hbl.out.mono hB)) (by omega)) (Nat.le_trans hB Hbl.out.size))
      obtain ⟨d1, d2, _, _⟩ := HRb.out (k + 1) (by omega)
      obtain ⟨l1, l2⟩ := HLb.out k hk
      obtain ⟨l3, l4⟩ := HLb.out (k + 1) (by omega)
      have d3 : (31 : Nat) ^ (k + 1) ≤ 29791 := Nat.le_trans (Nat.pow_le_pow_right (by omega) (show k + 1 ≤ 3 by omega)) (by omega)
      have Hn := Lib.hid (show lt a b (k + 1) = lt a b k / Nat.gcd (lt a b k) (rt a b (k + 1)).2 * (rt a b (k + 1)).2 from rfl)
      rw [Hn.out] at l3 l4
      generalize (rt a b (k + 1)).1 = N at *
      generalize (rt a b (k + 1)).2 = D at *
      generalize lt a b k = x at *
      have hg := Nat.gcd_pos_of_pos_left D l1
      have HG := Lib.hid (fun wx => divisor_any x D wx (by omega) (by omega))
      have hq := Nat.div_le_self x (Nat.gcd x D)
      have e1 : Int.tdiv (x : Int) (Nat.gcd x D : Int) = ((x / Nat.gcd x D : Nat) : Int) := by rw [Int.tdiv_eq_ediv_of_nonneg (by omega)]; exact (Int.natCast_ediv _ _).symm
      have e2 : (x : Int) / (Nat.gcd x D : Int) = ((x / Nat.gcd x D : Nat) : Int) := (Int.natCast_ediv _ _).symm
      generalize x / Nat.gcd x D = q at *
      generalize Nat.gcd x D = gg at *
      have hgn : gg ≠ 0 := by omega
      have hgi : (gg : Int) ≠ 0 := by omega
      have hqb : (q : Int) ≤ 887503681 := by omega
      have e3 : (q : Int) * (D : Int) = ((q * D : Nat) : Int) := (Int.natCast_mul _ _).symm
      generalize q * D = y at *
      have hyb : (y : Int) ≤ 887503681 := by omega
      have hk1 : ((k : Int) + 1).toNat = k + 1 := by omega
      have hk2 : (0 : Int) ≤ (k : Int) + 1 := by omega
      have hk3 : (k : Int) + 1 ≤ (c : Int) := by omega
      have hk4 : k + 1 ≤ c := by omega
      clear d1 d2 d3 l1 l2 l3 l4 hg hq
      go_wp2_with fail
      refine (HR2.out).mono ?_; rintro e w2 ⟨rfl, hb2⟩
      have Hb2 := Lib.hid (Hbl.out.trans (hb2.mono Hbl.out.size))
      have hfd := run_field_den N (D : Int) w2
      clear hb2
      go_wp2_with fail
      refine (HG.out _).mono ?_; rintro e w3 ⟨rfl, q3, rfl⟩
      have Hb3 := Lib.hid (below_drewN Hb2.out q3)
      go_wp2_with fail
      go_roundw
      case rel => exact ⟨k + 1, by omega, by go_num, by rw [Hn.out], Hb3.out⟩
      case measure => first | (simp [intOf]; done) | (simp [intOf]; omega)
    · obtain rfl : k = n := by omega
      go_wp2_with fail
      go_ret2
      exact ⟨rfl, Hbl.out⟩
end Go.Proofs.Ytddiielbmjkppaa
