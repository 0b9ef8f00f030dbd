/- Differences, part 4: NewtonValue, BinomialOf, the drawn coefficients. -/
import Derived.Test.YtdljlemgaefbpaaDf3
import Derived.Test.YtdljlemgaefbpaaSrc
import Derived.Test.YtdljlemgaefbpaaLong
namespace Go.Proofs.Ytdljlemgaefbpaa
open Go.RowKit Go.Joins

/-- binomial coefficients as the program makes them -/
def bin (n : Nat) : Nat → Nat
  | 0 => 1
  | i + 1 => bin n i * (n - i) / (i + 1)
def binV (n k : Nat) : Nat := if n < k then 0 else bin n (min k (n - k))
theorem bin_bd : ∀ n, n < 61 → ∀ i, i < 31 → bin n i * (n - i) < 9223372036854775807 := by decide +kernel
theorem bin_bd2 : ∀ n, n < 61 → ∀ i, i < 31 → bin n i ≤ 118264581564861424 := by decide +kernel
theorem bin_pascal : ∀ n, n < 60 → ∀ k, k < 59 → binV (n + 1) (k + 1) = binV n (k + 1) + binV n k := by decide +kernel
theorem binV_bd {n k : Nat} (hn : n < 61) : binV n k ≤ 118264581564861424 := by
  unfold binV
  split
  · omega
  · exact bin_bd2 n hn _ (by omega)

set_option maxRecDepth 100000 in
set_option maxHeartbeats 800000 in
theorem binomial_any (n k : Nat) (w : World) (hn : n < 61) (hk : k < 61) :
    Calls Try.prog 123 #[.int .i64 (n : Int), .int .i64 (k : Int)] w fun e w' => e = .returned (.int .i64 (binV n k : Int)) ∧ w = w' := by
  by_cases hnk : n < k
  · have hv : binV n k = 0 := by unfold binV; rw [if_pos hnk]
    have hnk' : (n : Int) < (k : Int) := by omega
    rw [hv]
    go_enter Try.func123, Try.ntmps123
    go_wp2_with fail
    go_ret
    exact ⟨rfl, rfl⟩
  · have hv : binV n k = bin n (min k (n - k)) := by unfold binV; rw [if_neg hnk]
    have hnk' : ¬ ((n : Int) < (k : Int)) := by omega
    rw [hv]
    by_cases hmn : k ≤ n - k
    · have hm : min k (n - k) = k := by omega
      rw [hm]
      have hle : (k : Int) ≤ (n : Int) - (k : Int) := by omega
      have hk30 : k ≤ 30 := by omega
      clear hm hv
      go_enter Try.func123, Try.ntmps123
      go_wp2_with fail
      go_loop [5, 16] (fun a i => ∃ j : Nat, j ≤ k ∧ i = .int .i64 (j : Int) ∧ a = .int .i64 (bin n j : Int)) (fun _ i => k - (intOf i).toNat)
      case atStart => exact ⟨0, Nat.zero_le _, rfl, rfl⟩
      case round =>
        obtain ⟨j, hj, rfl, rfl⟩ := hrel
        by_cases hlt : j < k
        · have hlt' : (j : Int) < (k : Int) := by omega
          have hbd := bin_bd n hn j (by omega)
          have hb2 := bin_bd2 n hn (j + 1) (by omega)
          have Hn := Lib.hid (show bin n (j + 1) = bin n j * (n - j) / (j + 1) from rfl)
          generalize hr : bin n (j + 1) = r at *
          have Hr := Lib.hid hr
          clear hr
          generalize bin n j = b at *
          have hd : (n : Int) - (j : Int) = ((n - j : Nat) : Int) := by omega
          generalize n - j = d at *
          have hwd : IntKind.i64.wrap (d : Int) = (d : Int) := IntWalk.i64_in _ (by omega)
          generalize hP : b * d = P at *
          have hPi : (b : Int) * (d : Int) = (P : Int) := by rw [← hP, Int.natCast_mul]
          have hPw : IntKind.i64.wrap (P : Int) = (P : Int) := IntWalk.i64_in _ (by omega)
          have hj0 : ((j : Int) + 1) ≠ 0 := by omega
          have HQ := Lib.hid (show wrap64 ((P : Int) / ((j : Int) + 1)) = (r : Int) from by
            have e : (P : Int) / ((j : Int) + 1) = (r : Int) := by rw [Hn.out]; rfl
            rw [e]
            exact IntWalk.wrap64_in _ ⟨by omega, by omega⟩)
          have HQ2 := Lib.hid (show wrap64 (Int.tdiv (P : Int) ((j : Int) + 1)) = (r : Int) from by
            rw [Int.tdiv_eq_ediv_of_nonneg (by omega)]; exact HQ.out)
          clear hbd hb2 hP
          go_wp2_with fail
          go_round
          case rel => exact ⟨j + 1, by omega, by go_num, by rw [Hr.out]; first | (rw [HQ.out]; done) | (rw [HQ2.out]; done)⟩
          case measure => simp [intOf]; omega
        · have hjm : j = k := by omega
          have hlt' : (k : Int) ≤ (j : Int) := by omega
          subst hjm
          go_wp2_with fail
          go_ret
          exact ⟨rfl, rfl⟩
    · obtain ⟨m, hm⟩ : ∃ m, m = n - k := ⟨_, rfl⟩
      have hm2 : min k (n - k) = m := by omega
      rw [hm2]
      have hmi : (n : Int) - (k : Int) = (m : Int) := by omega
      have hle : (m : Int) < (k : Int) := by omega
      have hm30 : m ≤ 30 := by omega
      have hmn2 : m ≤ n := by omega
      have hwm : IntKind.i64.wrap (m : Int) = (m : Int) := IntWalk.i64_in _ (by omega)
      clear hm hm2 hv hmn
      go_enter Try.func123, Try.ntmps123
      go_wp2_with fail
      go_loop [5, 16] (fun a i => ∃ j : Nat, j ≤ m ∧ i = .int .i64 (j : Int) ∧ a = .int .i64 (bin n j : Int)) (fun _ i => m - (intOf i).toNat)
      case atStart => exact ⟨0, Nat.zero_le _, rfl, rfl⟩
      case round =>
        obtain ⟨j, hj, rfl, rfl⟩ := hrel
        by_cases hlt : j < m
        · have hlt' : (j : Int) < (m : Int) := by omega
          have hbd := bin_bd n hn j (by omega)
          have hb2 := bin_bd2 n hn (j + 1) (by omega)
          have Hn := Lib.hid (show bin n (j + 1) = bin n j * (n - j) / (j + 1) from rfl)
          generalize hr : bin n (j + 1) = r at *
          have Hr := Lib.hid hr
          clear hr
          generalize bin n j = b at *
          have hd : (n : Int) - (j : Int) = ((n - j : Nat) : Int) := by omega
          generalize n - j = d at *
          have hwd : IntKind.i64.wrap (d : Int) = (d : Int) := IntWalk.i64_in _ (by omega)
          generalize hP : b * d = P at *
          have hPi : (b : Int) * (d : Int) = (P : Int) := by rw [← hP, Int.natCast_mul]
          have hPw : IntKind.i64.wrap (P : Int) = (P : Int) := IntWalk.i64_in _ (by omega)
          have hj0 : ((j : Int) + 1) ≠ 0 := by omega
          have HQ := Lib.hid (show wrap64 ((P : Int) / ((j : Int) + 1)) = (r : Int) from by
            have e : (P : Int) / ((j : Int) + 1) = (r : Int) := by rw [Hn.out]; rfl
            rw [e]
            exact IntWalk.wrap64_in _ ⟨by omega, by omega⟩)
          have HQ2 := Lib.hid (show wrap64 (Int.tdiv (P : Int) ((j : Int) + 1)) = (r : Int) from by
            rw [Int.tdiv_eq_ediv_of_nonneg (by omega)]; exact HQ.out)
          clear hbd hb2 hP
          go_wp2_with fail
          go_round
          case rel => exact ⟨j + 1, by omega, by go_num, by rw [Hr.out]; first | (rw [HQ.out]; done) | (rw [HQ2.out]; done)⟩
          case measure => simp [intOf]; omega
        · have hjm : j = m := by omega
          have hlt' : (m : Int) ≤ (j : Int) := by omega
          subst hjm
          go_wp2_with fail
          go_ret
          exact ⟨rfl, rfl⟩
theorem tab_snoc (i : Nat) (f : Nat → Int) (x : Int) : tab (i + 1) (fun k => if k < i then f k else x) = tab i f ++ [.int .i64 x] := by
  rw [tab_succ]
  simp only [Nat.lt_irrefl, if_false]
  congr 1
  exact tab_congr fun k hk => by simp [hk]
theorem Small.snoc {M i : Nat} {f : Nat → Int} {x : Int} (h : Small M i f) (hx : -(M : Int) ≤ x ∧ x ≤ M) : Small M (i + 1) (fun k => if k < i then f k else x) := by
  intro k hk
  by_cases h1 : k < i
  · simp only [h1, if_true]; exact h k h1
  · simp only [h1, if_false]; exact hx
/-- drawn coefficients -/
def RetC (g : Nat) (w : World) (e : Ending) (w' : World) : Prop :=
  ∃ v n f, e = .returned v ∧ 1 ≤ n ∧ n ≤ 5 ∧ Small 20 n f ∧ w'.ownsRow w.heap.size 2 1 v n (tab n f) ∧ Below g w w'
end Go.Proofs.Ytdljlemgaefbpaa
