/- Differences, part 3: tests of entries, Newton's values, binomial coefficients. -/
import Derived.Test.YtddiielbmjkppaaDf2
namespace Go.Proofs.Ytddiielbmjkppaa
open Go.RowKit Go.Joins

theorem inB_true {n lo hi : Int} (h1 : lo ≤ n) (h2 : n ≤ hi) : inB n lo hi = true := by simp [inB, h1, h2]

set_option maxRecDepth 100000 in
set_option maxHeartbeats 800000 in
theorem areEntries_any (B : Nat) (v : Value) (n : Nat) (most : Int) (f : Nat → Int) (w : World) (h : Rd w B v n 1 (tab n f)) (hn : n ≤ 1000) (h1 : 1 ≤ n) (h2 : (n : Int) ≤ most) (hS : Small 1000000000 n f) :
    Calls Try.prog 307 #[v, .int .i64 most] w fun e w' => e = .returned (.bool true) ∧ w = w' := by
  have H := Lib.hid h
  have HS := Lib.hid hS
  obtain ⟨A, c, rfl⟩ := rd_sl h
  clear h hS
  go_enter Try.func307, Try.ntmps307
  go_wp2_with fail
  go_loop [9] (fun i => ∃ k : Nat, k ≤ n ∧ i = .int .i64 (k : Int)) (fun i => n - (intOf i).toNat)
  case atStart => exact ⟨0, Nat.zero_le _, rfl⟩
  case round =>
    obtain ⟨k, hk, rfl⟩ := hrel
    by_cases hlt : k < n
    · obtain ⟨b1, o1, hA, _, hcc⟩ := rdF_all H.out h1
      subst hA
      have q0 := hcc k hlt
      have s0 := HS.out k hlt
      have hlt' : (k : Int) < (n : Int) := by omega
      generalize f k = x at *
      have HB := Lib.hid (fun wx => between_any x (-1000000000) 1000000000 wx)
      rw [inB_true (by omega) (by omega)] at HB
      clear hcc
      go_wp2_with fail
      refine (HB.out _).mono ?_; rintro e w1 ⟨rfl, rfl⟩
      go_wp2_with fail
      go_round
      case rel => exact ⟨k + 1, by omega, by go_num⟩
      case measure => simp [intOf]; omega
    · have hlt' : (n : Int) ≤ (k : Int) := by omega
      have h1' : (1 : Int) ≤ (n : Int) := by omega
      go_wp2_with fail
      go_ret
      exact ⟨rfl, rfl⟩
theorem areCoefs_any (B : Nat) (v : Value) (n : Nat) (f : Nat → Int) (w : World) (h : Rd w B v n 1 (tab n f)) (h1 : 1 ≤ n) (h2 : n ≤ 9) (hS : Small 1000000000 n f) :
    Calls Try.prog 169 #[v] w fun e w' => e = .returned (.bool true) ∧ w = w' := by
  have HE := Lib.hid (areEntries_any B v n 9 f w h (by omega) h1 (by omega) hS)
  obtain ⟨A, c, rfl⟩ := rd_sl h
  clear h hS
  go_enter Try.func169, Try.ntmps169
  go_wp2_with fail
  refine HE.out.mono ?_; rintro e w1 ⟨rfl, rfl⟩
  go_wp2_with fail
  go_ret
  exact ⟨rfl, rfl⟩
theorem isFar_any (x : Int) (w : World) (h1 : -1000000000000000 ≤ x) (h2 : x ≤ 1000000000000000) :
    Calls Try.prog 308 #[.int .i64 x] w fun e w' => e = .returned (.bool false) ∧ w = w' := by
  have HB := Lib.hid (fun wx => between_any x (-1000000000000000) 1000000000000000 wx)
  rw [inB_true h1 h2] at HB
  go_enter Try.func308, Try.ntmps308
  go_wp2_with fail
  refine (HB.out _).mono ?_; rintro e w1 ⟨rfl, rfl⟩
  go_wp2_with fail
  go_ret
  exact ⟨rfl, rfl⟩
theorem l04Size_any (x : Int) (w : World) (h1 : -1000000000000000 ≤ x) (h2 : x ≤ 1000000000000000) :
    Calls Try.prog 312 #[.int .i64 x] w fun e w' => e = .returned (.int .i64 (x.natAbs : Int)) ∧ w = w' := by
  by_cases h : x < 0
  · have hw : IntKind.i64.wrap (-x) = -x := IntWalk.i64_in _ (by omega)
    go_enter Try.func312, Try.ntmps312
    go_wp2_with fail
    go_ret
    exact ⟨ret_int (by omega), rfl⟩
  · go_enter Try.func312, Try.ntmps312
    go_wp2_with fail
    go_ret
    exact ⟨ret_int (by omega), rfl⟩

/-- the binomial coefficients as the code makes them -/
def chb (x : Nat) : Nat → Nat
  | 0 => 1
  | k + 1 => if k < x then chb x k * (x - k) / (k + 1) else 0
theorem chb_bd : ∀ x, x < 14 → ∀ k, k < 10 → chb x k ≤ 1716 := by decide +kernel
def nval (f : Nat → Int) (x : Nat) : Nat → Int
  | 0 => 0
  | j + 1 => nval f x j + f j * (chb x j : Int)
theorem mul_bd {a : Int} {C : Nat} (h : -(C : Int) ≤ a ∧ a ≤ C) (b M : Nat) (hb : b ≤ M) : -((C * M : Nat) : Int) ≤ a * (b : Int) ∧ a * (b : Int) ≤ ((C * M : Nat) : Int) := by
  have h1 : a.natAbs ≤ C := by omega
  have h2 : (a * (b : Int)).natAbs ≤ C * M := by
    rw [Int.natAbs_mul, Int.natAbs_natCast]
    exact Nat.mul_le_mul h1 hb
  omega
theorem nval_bd {f : Nat → Int} {C n x : Nat} (hS : Small C n f) (hx : x < 14) (hn : n ≤ 9) : ∀ j, j ≤ n → -((j * (C * 1716) : Nat) : Int) ≤ nval f x j ∧ nval f x j ≤ ((j * (C * 1716) : Nat) : Int)
  | 0, _ => by simp [nval]
  | j + 1, hj => by
    have h1 := nval_bd hS hx hn j (by omega)
    have h2 := mul_bd (hS j (by omega)) (chb x j) 1716 (chb_bd x hx j (by omega))
    show _ ≤ nval f x j + f j * (chb x j : Int) ∧ nval f x j + f j * (chb x j : Int) ≤ _
    rw [Nat.add_mul, Nat.one_mul]
    omega

theorem quo_bd (c : Int) (h0 : c ≠ 0) (h1 : -1000000 ≤ c ∧ c ≤ 1000000) : (1000000000 : Int) ≤ (1000000000000000 : Int) / (c.natAbs : Int) := by
  have h2 : (0 : Int) < (c.natAbs : Int) := by omega
  rw [Int.le_ediv_iff_mul_le h2]
  omega

end Go.Proofs.Ytddiielbmjkppaa
