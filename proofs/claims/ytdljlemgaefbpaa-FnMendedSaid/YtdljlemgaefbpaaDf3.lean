/- Differences, part 3: tests of entries, Newton's values, binomial coefficients. -/
import Derived.Test.YtdljlemgaefbpaaDf2
namespace Go.Proofs.Ytdljlemgaefbpaa
open Go.RowKit Go.Joins

theorem inB_true {n lo hi : Int} (h1 : lo ≤ n) (h2 : n ≤ hi) : inB n lo hi = true := by simp [inB, h1, h2]

theorem l04Size_any (x : Int) (w : World) (h1 : -1000000000000000 ≤ x) (h2 : x ≤ 1000000000000000) :
    Calls Try.prog 164 #[.int .i64 x] w fun e w' => e = .returned (.int .i64 (x.natAbs : Int)) ∧ w = w' := by
  by_cases h : x < 0
  · have hw : IntKind.i64.wrap (-x) = -x := IntWalk.i64_in _ (by omega)
    go_enter Try.func164, Try.ntmps164
    go_wp2_with fail
    go_ret
    exact ⟨ret_int (by omega), rfl⟩
  · go_enter Try.func164, Try.ntmps164
    go_wp2_with fail
    go_ret
    exact ⟨ret_int (by omega), rfl⟩

/-- the binomial coefficients as the code makes them -/
def chb (x : Nat) : Nat → Nat
  | 0 => 1
  | k + 1 => if k < x then chb x k * (x - k) / (k + 1) else 0
theorem chb_bd : ∀ x, x < 14 → ∀ k, k < 10 → chb x k ≤ 1716 := by decide +kernel
def nval (f : Nat → Int) (x : Nat) : Nat → Int
  | 0 => 0
  | j + 1 => nval f x j + f j * (chb x j : Int)
theorem mul_bd {a : Int} {C : Nat} (h : -(C : Int) ≤ a ∧ a ≤ C) (b M : Nat) (hb : b ≤ M) : -((C * M : Nat) : Int) ≤ a * (b : Int) ∧ a * (b : Int) ≤ ((C * M : Nat) : Int) := by
  have h1 : a.natAbs ≤ C := by omega
  have h2 : (a * (b : Int)).natAbs ≤ C * M := by
    rw [Int.natAbs_mul, Int.natAbs_natCast]
    exact Nat.mul_le_mul h1 hb
  omega
theorem nval_bd {f : Nat → Int} {C n x : Nat} (hS : Small C n f) (hx : x < 14) (hn : n ≤ 9) : ∀ j, j ≤ n → -((j * (C * 1716) : Nat) : Int) ≤ nval f x j ∧ nval f x j ≤ ((j * (C * 1716) : Nat) : Int)
  | 0, _ => by simp [nval]
  | j + 1, hj => by
    have h1 := nval_bd hS hx hn j (by omega)
    have h2 := mul_bd (hS j (by omega)) (chb x j) 1716 (chb_bd x hx j (by omega))
    show _ ≤ nval f x j + f j * (chb x j : Int) ∧ nval f x j + f j * (chb x j : Int) ≤ _
    rw [Nat.add_mul, Nat.one_mul]
    omega

theorem quo_bd (c : Int) (h0 : c ≠ 0) (h1 : -1000000 ≤ c ∧ c ≤ 1000000) : (1000000000 : Int) ≤ (1000000000000000 : Int) / (c.natAbs : Int) := by
  have h2 : (0 : Int) < (c.natAbs : Int) := by omega
  rw [Int.le_ediv_iff_mul_le h2]
  omega

end Go.Proofs.Ytdljlemgaefbpaa
