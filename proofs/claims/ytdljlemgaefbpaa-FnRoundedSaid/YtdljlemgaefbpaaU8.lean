/- Errors of tables, part 8: plain laws of the worst pattern. -/
import Derived.Test.YtdljlemgaefbpaaU7
namespace Go.Proofs.Ytdljlemgaefbpaa
open Go.RowKit Go.Joins

theorem wpf_top {n : Nat} (b : Int) (hn : n < 9) : Dn n (wpf n b) 0 = b * ((2 ^ n : Nat) : Int) := by
  rw [wpf_wp, Dn_mul]
  show b * Dn n (wp n) 0 = _
  rw [wp_top n hn]
theorem wpf_small {n : Nat} {b : Int} (h0 : 0 ≤ b) (h1 : b ≤ 1000000) (m : Nat) : Small 1000000 m (wpf n b) := by
  intro i _
  unfold wpf
  split <;> omega
theorem wpf_dn {n : Nat} {b : Int} (h0 : 0 ≤ b) (h1 : b ≤ 1000000) {r m : Nat} (hr : r ≤ 8) : Small 256000000 (m - r) (Dn r (wpf n b)) := by
  refine ((wpf_small h0 h1 m).Dn r).more ?_
  have : 2 ^ r ≤ 2 ^ 8 := Nat.pow_le_pow_right (by omega) hr
  omega
def sps (n : Nat) (b : Int) : Nat → Int
  | 0 => 0
  | k + 1 => sps n b k + max (spf n b k) (-(spf n b k))
def sch (n : Nat) : Nat → Nat
  | 0 => 0
  | k + 1 => sch n k + ch n k
theorem sch_top : ∀ n, n < 9 → sch n (n + 1) = 2 ^ n := by decide +kernel
theorem sch_bd : ∀ n, n < 9 → ∀ k, k < 10 → sch n k ≤ 256 := by decide +kernel
theorem spf_max {n k : Nat} {b : Int} (h0 : 0 ≤ b) : max (spf n b k) (-(spf n b k)) = b * ((ch n k : Nat) : Int) := by
  have h := Int.mul_nonneg h0 (Int.natCast_nonneg (ch n k))
  unfold spf
  split <;> omega
theorem sps_eq {n : Nat} {b : Int} (h0 : 0 ≤ b) : ∀ k, sps n b k = b * ((sch n k : Nat) : Int)
  | 0 => by show (0 : Int) = b * ((0 : Nat) : Int); simp
  | k + 1 => by
    show sps n b k + _ = b * ((sch n k + ch n k : Nat) : Int)
    rw [sps_eq h0 k, spf_max h0, Int.natCast_add, Int.mul_add]
theorem sps_bd {n k : Nat} {b : Int} (h0 : 0 ≤ b) (h1 : b ≤ 1000000) (hn : n < 9) (hk : k < 10) : 0 ≤ sps n b k ∧ sps n b k ≤ 256000000 := by
  rw [sps_eq h0]
  have := sch_bd n hn k hk
  have h2 := abs_mul (a := b) (b := ((sch n k : Nat) : Int)) (A := 1000000) (B := 256) (by omega) (by omega)
  have h3 := Int.mul_nonneg h0 (Int.natCast_nonneg (sch n k))
  omega
theorem spf_bd {n k : Nat} {b : Int} (h0 : 0 ≤ b) (h1 : b ≤ 1000000) (hn : n < 9) (hk : k < 9) : -70000000 ≤ spf n b k ∧ spf n b k ≤ 70000000 := by
  obtain ⟨_, _, b3⟩ := bin_ch n hn k hk
  have h2 := abs_mul (a := b) (b := ((ch n k : Nat) : Int)) (A := 1000000) (B := 70) (by omega) (by omega)
  unfold spf
  split <;> omega
theorem sps_top {n : Nat} {b : Int} (h0 : 0 ≤ b) (hn : n < 9) : sps n b (n + 1) = b * ((2 ^ n : Nat) : Int) := by rw [sps_eq h0, sch_top n hn]
theorem wmx_fin {n : Nat} {f : Nat → Int} {u ww : Int} (hw : (if rc n f u = 0 then wmx f u n else 0) = ww) (h : rc n f u = 0) : 2 * ww ≤ u ∧ 0 ≤ ww ∧ ww ≤ 1000000 := by
  rw [if_pos h] at hw
  rw [← hw]
  have := wmx_bd (f := f) (n := n) (rc_ok h).2.1 n
  omega
theorem rV_fin {v u : Int} (h : rE v u = 0) : (rV v u).tmod u = 0 ∧ (1 ≤ u ∧ u ≤ 1000000) ∧ (-1000000000000 ≤ v ∧ v ≤ 1000000000000) ∧ 2 * (rV v u - v) ≤ u ∧ -u < 2 * (rV v u - v) := by
  unfold rE at h
  unfold rV
  split at h
  · rename_i h1
    unfold okU at h1
    rw [Bool.and_eq_true] at h1
    have hv := inB_iff.1 h1.1
    have hu := inB_iff.1 h1.2
    split at h
    · cases h
    · rename_i h2
      rw [if_neg h2]
      have hb := ru_bd (v := v) (u := u) (by omega)
      rw [if_pos (show okU v u = true by unfold okU; rw [h1.1, h1.2]; rfl)]
      exact ⟨Int.mul_tmod_left _ _, hu, hv, by omega, by omega⟩
  · cases h
theorem dbV_at {n : Nat} {b : Int} (h : oc (n : Int) b = 0) : dbV (n : Int) b = b * ((2 ^ n : Nat) : Int) := by
  unfold dbV
  rw [if_pos h, Int.toNat_natCast]
end Go.Proofs.Ytdljlemgaefbpaa
