/- Trains, part 1: ratios in plain words. -/
import Derived.Test.YtddiielbmjkppaaLib
namespace Go.Proofs.Ytddiielbmjkppaa

/-- lowest terms -/
def lowN (N : Int) (D : Nat) : Int := N.tdiv (Nat.gcd N.natAbs D : Nat)
def lowD (N : Int) (D : Nat) : Nat := D / Nat.gcd N.natAbs D
theorem low_mul (N : Int) (D : Nat) : lowN N D * (Nat.gcd N.natAbs D : Nat) = N := by
  unfold lowN
  exact Int.tdiv_mul_cancel (Int.ofNat_dvd_left.2 (Nat.gcd_dvd_left _ _))
theorem low_muld (N : Int) (D : Nat) : lowD N D * Nat.gcd N.natAbs D = D := Nat.div_mul_cancel (Nat.gcd_dvd_right _ _)
theorem low_pos {N : Int} {D : Nat} (h : 0 < D) : 0 < lowD N D := by
  have := low_muld N D
  refine Nat.pos_of_ne_zero fun e => ?_
  rw [e] at this; omega
theorem low_g {N : Int} {D : Nat} (h : 0 < D) : 0 < Nat.gcd N.natAbs D := Nat.gcd_pos_of_pos_right _ h
theorem low_eq {N : Int} {D : Nat} (_h : 0 < D) : lowN N D * (D : Int) = N * (lowD N D : Int) := by
  have h1 := low_mul N D
  have h2 := low_muld N D
  have h2' : (lowD N D : Int) * (Nat.gcd N.natAbs D : Nat) = (D : Int) := by rw [← Int.natCast_mul, h2]
  have h3 : lowN N D * ((lowD N D : Int) * (Nat.gcd N.natAbs D : Nat)) = (lowN N D * (Nat.gcd N.natAbs D : Nat)) * (lowD N D : Int) := by
    rw [Int.mul_assoc, Int.mul_comm (lowD N D : Int)]
  rw [h2', h1] at h3
  exact h3
theorem low_dvd (N : Int) (D : Nat) : lowD N D ∣ D := ⟨_, (low_muld N D).symm⟩
theorem low_le {N : Int} {D : Nat} (h : 0 < D) : lowD N D ≤ D := Nat.le_of_dvd h (low_dvd N D)
theorem low_bd (N : Int) (D : Nat) : (lowN N D).natAbs ≤ N.natAbs := by
  unfold lowN
  rw [Int.natAbs_tdiv]
  exact Nat.div_le_self _ _
theorem low_ne {N : Int} {D : Nat} (h : N ≠ 0) : lowN N D ≠ 0 := by
  intro e
  have := low_mul N D
  rw [e, Int.zero_mul] at this
  exact h this.symm

/-- the ratio of the first k pairs -/
def rt (a b : Nat → Nat) : Nat → Int × Nat
  | 0 => (1, 1)
  | k + 1 => (lowN (-(rt a b k).1 * (a k : Int)) ((rt a b k).2 * b k), lowD (-(rt a b k).1 * (a k : Int)) ((rt a b k).2 * b k))
def pr (a : Nat → Nat) : Nat → Nat
  | 0 => 1
  | k + 1 => pr a k * a k
def sgn : Nat → Int
  | 0 => 1
  | k + 1 => -(sgn k)
theorem sgn_sq : ∀ k, sgn k * sgn k = 1
  | 0 => rfl
  | k + 1 => by show -(sgn k) * -(sgn k) = 1; rw [Int.neg_mul_neg]; exact sgn_sq k
theorem pr_pos {a : Nat → Nat} {n : Nat} (h : ∀ k, k < n → 0 < a k) : ∀ k, k ≤ n → 0 < pr a k
  | 0, _ => by simp [pr]
  | k + 1, hk => Nat.mul_pos (pr_pos h k (by omega)) (h k (by omega))
theorem pr_le {a : Nat → Nat} {n M : Nat} (h : ∀ k, k < n → a k ≤ M) : ∀ k, k ≤ n → pr a k ≤ M ^ k
  | 0, _ => by simp [pr]
  | k + 1, hk => by rw [Nat.pow_succ]; exact Nat.mul_le_mul (pr_le h k (by omega)) (h k (by omega))
theorem rt_all {a b : Nat → Nat} {n : Nat} (ha : ∀ k, k < n → 0 < a k) (hb : ∀ k, k < n → 0 < b k) : ∀ k, k ≤ n → 0 < (rt a b k).2 ∧ (rt a b k).2 ≤ pr b k ∧ (rt a b k).1.natAbs ≤ pr a k ∧ (rt a b k).1 ≠ 0 ∧
    (rt a b k).1 * (pr b k : Int) = (rt a b k).2 * (sgn k * (pr a k : Int))
  | 0, _ => by simp [rt, pr, sgn]
  | k + 1, hk => by
    obtain ⟨h1, h2, h3, h4, h5⟩ := rt_all ha hb k (by omega)
    have ha1 := ha k (by omega)
    have hb1 := hb k (by omega)
    have hD : 0 < (rt a b k).2 * b k := Nat.mul_pos h1 hb1
    have e1 : (rt a b (k + 1)).1 = lowN (-(rt a b k).1 * (a k : Int)) ((rt a b k).2 * b k) := rfl
    have e2 : (rt a b (k + 1)).2 = lowD (-(rt a b k).1 * (a k : Int)) ((rt a b k).2 * b k) := rfl
    have e3 : pr a (k + 1) = pr a k * a k := rfl
    have e4 : pr b (k + 1) = pr b k * b k := rfl
    have e5 : sgn (k + 1) = -(sgn k) := rfl
    rw [e1, e2, e3, e4, e5]
    generalize hN : -(rt a b k).1 * (a k : Int) = N at *
    generalize hDD : (rt a b k).2 * b k = DD at *
    have hle := low_le (N := N) hD
    have hbd := low_bd N DD
    have heq := low_eq (N := N) hD
    refine ⟨low_pos hD, ?_, ?_, ?_, ?_⟩
    · refine Nat.le_trans hle ?_
      rw [← hDD]; exact Nat.mul_le_mul_right _ h2
    · refine Nat.le_trans hbd ?_
      rw [← hN, Int.natAbs_mul, Int.natAbs_neg, Int.natAbs_natCast]
      exact Nat.mul_le_mul_right _ h3
    · refine low_ne ?_
      rw [← hN]
      exact Int.mul_ne_zero (by omega) (by omega)
    · have hDi : (DD : Int) ≠ 0 := by omega
      refine Int.eq_of_mul_eq_mul_right hDi ?_
      have hDDi : (DD : Int) = ((rt a b k).2 : Int) * (b k : Int) := by rw [← hDD, Int.natCast_mul]
      calc lowN N DD * ((pr b k * b k : Nat) : Int) * (DD : Int) = (lowN N DD * (DD : Int)) * ((pr b k : Int) * (b k : Int)) := by rw [Int.natCast_mul]; ac_rfl
        _ = N * (lowD N DD : Int) * ((pr b k : Int) * (b k : Int)) := by rw [heq]
        _ = (lowD N DD : Int) * -(a k : Int) * (b k : Int) * ((rt a b k).1 * (pr b k : Int)) := by rw [← hN, Int.neg_mul, Int.neg_mul, Int.neg_mul, Int.mul_neg, Int.neg_mul, Int.neg_mul]; ac_rfl
        _ = (lowD N DD : Int) * -(a k : Int) * (b k : Int) * ((rt a b k).2 * (sgn k * (pr a k : Int))) := by rw [h5]
        _ = (lowD N DD : Int) * (-(sgn k) * ((pr a k * a k : Nat) : Int)) * (DD : Int) := by rw [hDDi, Int.natCast_mul, Int.mul_neg, Int.neg_mul, Int.neg_mul, Int.neg_mul, Int.mul_neg, Int.neg_mul]; ac_rfl
theorem rt_congr {a b a' b' : Nat → Nat} : ∀ n, (∀ k, k < n → a k = a' k ∧ b k = b' k) → rt a b n = rt a' b' n
  | 0, _ => rfl
  | n + 1, h => by
    have h1 := h n (by omega)
    have h2 := rt_congr n (fun k hk => h k (by omega))
    show (lowN (-(rt a b n).1 * (a n : Int)) ((rt a b n).2 * b n), lowD (-(rt a b n).1 * (a n : Int)) ((rt a b n).2 * b n)) = _
    rw [h1.1, h1.2, h2]; rfl
/-- two trains, one behind the other -/
def jn (n : Nat) (a c : Nat → Nat) : Nat → Nat := fun k => if k < n then a k else c (k - n)
theorem jn_l {n k : Nat} (a c : Nat → Nat) (h : k < n) : jn n a c k = a k := by simp [jn, h]
theorem jn_r {n k : Nat} (a c : Nat → Nat) : jn n a c (n + k) = c k := by
  unfold jn
  rw [if_neg (by omega), Nat.add_sub_cancel_left]
theorem pr_congr {a a' : Nat → Nat} : ∀ n, (∀ k, k < n → a k = a' k) → pr a n = pr a' n
  | 0, _ => rfl
  | n + 1, h => by
    show pr a n * a n = pr a' n * a' n
    rw [pr_congr n (fun k hk => h k (by omega)), h n (by omega)]
theorem pr_jn (n : Nat) (a c : Nat → Nat) : ∀ m, pr (jn n a c) (n + m) = pr a n * pr c m
  | 0 => by rw [Nat.add_zero]; show _ = pr a n * 1; rw [Nat.mul_one]; exact pr_congr n (fun k hk => jn_l a c hk)
  | m + 1 => by
    show pr (jn n a c) (n + m) * jn n a c (n + m) = pr a n * (pr c m * c m)
    rw [pr_jn n a c m, jn_r, Nat.mul_assoc]
theorem sgn_add (n : Nat) : ∀ m, sgn (n + m) = sgn n * sgn m
  | 0 => by show sgn n = sgn n * 1; rw [Int.mul_one]
  | m + 1 => by show -(sgn (n + m)) = sgn n * -(sgn m); rw [sgn_add n m, Int.mul_neg]
theorem int3 {A B C D : Int} (h : A = B) (k : C = D) : A * C = B * D := by rw [h, k]
/-- the ratio of joined trains is the product -/
theorem rt_join {n m : Nat} {a b c d : Nat → Nat} (ha : ∀ k, k < n → 0 < a k) (hb : ∀ k, k < n → 0 < b k) (hc : ∀ k, k < m → 0 < c k) (hd : ∀ k, k < m → 0 < d k) :
    (rt (jn n a c) (jn n b d) (n + m)).1 * (((rt a b n).2 : Int) * ((rt c d m).2 : Int)) = (rt a b n).1 * (rt c d m).1 * ((rt (jn n a c) (jn n b d) (n + m)).2 : Int) := by
  obtain ⟨_, _, _, _, r⟩ := rt_all ha hb n (Nat.le_refl _)
  obtain ⟨_, _, _, _, s⟩ := rt_all hc hd m (Nat.le_refl _)
  have hj : ∀ (x y : Nat → Nat), (∀ k, k < n → 0 < x k) → (∀ k, k < m → 0 < y k) → ∀ k, k < n + m → 0 < jn n x y k := by
    intro x y hx hy k hk
    unfold jn
    split
    · exact hx k (by omega)
    · exact hy _ (by omega)
  obtain ⟨_, _, _, _, t⟩ := rt_all (hj a c ha hc) (hj b d hb hd) (n + m) (Nat.le_refl _)
  have p1 := pr_pos hb n (Nat.le_refl _)
  have p2 := pr_pos hd m (Nat.le_refl _)
  rw [pr_jn, pr_jn, sgn_add, Int.natCast_mul, Int.natCast_mul] at t
  generalize (rt (jn n a c) (jn n b d) (n + m)).1 = tn at *
  generalize (rt (jn n a c) (jn n b d) (n + m)).2 = td at *
  generalize (rt a b n).1 = rn at *
  generalize (rt a b n).2 = rd at *
  generalize (rt c d m).1 = sn at *
  generalize (rt c d m).2 = sd at *
  have hP : ((pr b n : Int) * (pr d m : Int)) ≠ 0 := Int.mul_ne_zero (by omega) (by omega)
  refine Int.eq_of_mul_eq_mul_right hP ?_
  calc tn * ((rd : Int) * sd) * ((pr b n : Int) * (pr d m : Int)) = (tn * ((pr b n : Int) * (pr d m : Int))) * ((rd : Int) * sd) := by ac_rfl
    _ = (td : Int) * (sgn n * sgn m * ((pr a n : Int) * (pr c m : Int))) * ((rd : Int) * sd) := by rw [t]
    _ = (td : Int) * (((rd : Int) * (sgn n * (pr a n : Int))) * ((sd : Int) * (sgn m * (pr c m : Int)))) := by ac_rfl
    _ = (td : Int) * ((rn * (pr b n : Int)) * (sn * (pr d m : Int))) := by rw [r, s]
    _ = rn * sn * (td : Int) * ((pr b n : Int) * (pr d m : Int)) := by ac_rfl
/-- a train from its end -/
def bk (n : Nat) (a : Nat → Nat) : Nat → Nat := fun k => a (n - 1 - k)
theorem pr_shift (a : Nat → Nat) : ∀ n, pr a (n + 1) = a 0 * pr (fun k => a (k + 1)) n
  | 0 => by show 1 * a 0 = a 0 * 1; omega
  | n + 1 => by show pr a (n + 1) * a (n + 1) = a 0 * (pr (fun k => a (k + 1)) n * a (n + 1)); rw [pr_shift a n, Nat.mul_assoc]
theorem pr_bk (a : Nat → Nat) : ∀ n, pr (bk n a) n = pr a n
  | 0 => rfl
  | n + 1 => by
    rw [pr_shift]
    have e : pr (fun k => bk (n + 1) a (k + 1)) n = pr (bk n a) n := pr_congr n (fun k hk => by show a (n + 1 - 1 - (k + 1)) = a (n - 1 - k); congr 1; omega)
    rw [e, pr_bk a n]
    show a (n + 1 - 1 - 0) * pr a n = pr a n * a n
    rw [Nat.mul_comm]; rfl
theorem rt_back {n : Nat} {a b : Nat → Nat} (ha : ∀ k, k < n → 0 < a k) (hb : ∀ k, k < n → 0 < b k) : (rt (bk n b) (bk n a) n).1 * (rt a b n).1 = ((rt (bk n b) (bk n a) n).2 : Int) * ((rt a b n).2 : Int) := by
  obtain ⟨_, _, _, _, r⟩ := rt_all ha hb n (Nat.le_refl _)
  obtain ⟨_, _, _, _, u⟩ := rt_all (a := bk n b) (b := bk n a) (n := n) (fun k hk => hb _ (by omega)) (fun k hk => ha _ (by omega)) n (Nat.le_refl _)
  have p1 := pr_pos hb n (Nat.le_refl _)
  have p2 := pr_pos ha n (Nat.le_refl _)
  have q := sgn_sq n
  rw [pr_bk, pr_bk] at u
  generalize (rt (bk n b) (bk n a) n).1 = un at *
  generalize (rt (bk n b) (bk n a) n).2 = ud at *
  generalize (rt a b n).1 = rn at *
  generalize (rt a b n).2 = rd at *
  have hP : ((pr a n : Int) * (pr b n : Int)) ≠ 0 := Int.mul_ne_zero (by omega) (by omega)
  refine Int.eq_of_mul_eq_mul_right hP ?_
  calc un * rn * ((pr a n : Int) * (pr b n : Int)) = (un * (pr a n : Int)) * (rn * (pr b n : Int)) := by ac_rfl
    _ = ((ud : Int) * (sgn n * (pr b n : Int))) * ((rd : Int) * (sgn n * (pr a n : Int))) := by rw [r, u]
    _ = (ud : Int) * rd * ((pr a n : Int) * (pr b n : Int)) * (sgn n * sgn n) := by ac_rfl
    _ = _ := by rw [q, Int.mul_one]

/-- after how many turns all wheels are as at the beginning: the first k pairs -/
def lt (a b : Nat → Nat) : Nat → Nat
  | 0 => 1
  | k + 1 => lt a b k / Nat.gcd (lt a b k) (rt a b (k + 1)).2 * (rt a b (k + 1)).2
theorem lt_all {a b : Nat → Nat} {n : Nat} (ha : ∀ k, k < n → 0 < a k) (hb : ∀ k, k < n → 0 < b k) : ∀ k, k ≤ n → 0 < lt a b k ∧ lt a b (k + 1) = lt a b k / Nat.gcd (lt a b k) (rt a b (k + 1)).2 * (rt a b (k + 1)).2
  | 0, _ => by simp [lt]
  | k + 1, hk => by
    obtain ⟨h1, h2⟩ := lt_all ha hb k (by omega)
    refine ⟨?_, rfl⟩
    rw [h2]
    have h3 := (rt_all ha hb (k + 1) hk).1
    refine Nat.mul_pos (Nat.div_pos (Nat.le_of_dvd h1 (Nat.gcd_dvd_left _ _)) (Nat.gcd_pos_of_pos_left _ h1)) h3
theorem lt_step_le (x d : Nat) : x / Nat.gcd x d * d ≤ x * d := Nat.mul_le_mul_right _ (Nat.div_le_self _ _)
theorem lt_dvd (a b : Nat → Nat) (k : Nat) : (rt a b (k + 1)).2 ∣ lt a b (k + 1) := Nat.dvd_mul_left _ _
/-- turns that are a multiple of the denominator -/
theorem low_whole {N : Int} {D n : Nat} (hD : 0 < D) (h : D ∣ n) : lowD (N * (n : Int)) D = 1 ∧ lowN (N * (n : Int)) D * (D : Int) = N * (n : Int) := by
  have hg : Nat.gcd (N * (n : Int)).natAbs D = D := by
    refine Nat.gcd_eq_right ?_
    rw [Int.natAbs_mul, Int.natAbs_natCast]
    exact Nat.dvd_trans h (Nat.dvd_mul_left _ _)
  have h1 : lowD (N * (n : Int)) D = 1 := by
    unfold lowD
    rw [hg]
    exact Nat.div_self hD
  refine ⟨h1, ?_⟩
  have := low_mul (N * (n : Int)) D
  rw [hg] at this
  exact this
/-- a fraction in lowest terms stays the same number -/
theorem low_cross {n d g num den : Nat} (hn : num = n * g) (hd : den = d * g) (hd0 : 0 < d) (k : Nat) (hk : 0 < k) : lowN ((k * n : Nat) : Int) (k * d) * (den : Int) = (num : Int) * (lowD ((k * n : Nat) : Int) (k * d) : Int) := by
  have h := low_eq (N := ((k * n : Nat) : Int)) (D := k * d) (Nat.mul_pos hk hd0)
  generalize lowN ((k * n : Nat) : Int) (k * d) = x at *
  generalize lowD ((k * n : Nat) : Int) (k * d) = y at *
  subst hn hd
  have hk' : (k : Int) ≠ 0 := by omega
  refine Int.eq_of_mul_eq_mul_right hk' ?_
  rw [Int.natCast_mul, Int.natCast_mul] at h
  rw [Int.natCast_mul, Int.natCast_mul]
  calc x * ((d : Int) * g) * (k : Int) = (x * ((k : Int) * d)) * g := by ac_rfl
    _ = ((k : Int) * n * y) * g := by rw [h]
    _ = _ := by ac_rfl
end Go.Proofs.Ytddiielbmjkppaa
