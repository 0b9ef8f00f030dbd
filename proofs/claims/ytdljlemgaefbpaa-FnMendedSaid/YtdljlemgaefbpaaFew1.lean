/- Fewest turns, part 1: turns in plain words: lists made digit by digit, the rule of the fewest turns, no turns are fewer. -/
import Derived.Test.YtdljlemgaefbpaaLib
namespace Go.Proofs.Ytdljlemgaefbpaa

/-- a list of digits made from the lowest one on -/
def gl (dg : Nat → Int) (nx : Nat → Nat) : Nat → Nat → List Int
  | 0, _ => []
  | k + 1, n => if n = 0 then [] else dg n :: gl dg nx k (nx n)
theorem gl_fuel {dg : Nat → Int} {nx : Nat → Nat} (hx : ∀ n, 0 < n → nx n < n) : ∀ k j n, n ≤ k → n ≤ j → gl dg nx k n = gl dg nx j n
  | 0, j, n, h1, _ => by
    obtain rfl : n = 0 := by omega
    cases j <;> simp [gl]
  | k + 1, 0, n, _, h2 => by
    obtain rfl : n = 0 := by omega
    simp [gl]
  | k + 1, j + 1, n, h1, h2 => by
    by_cases h : n = 0
    · simp [gl, h]
    · have := hx n (by omega)
      simp only [gl, if_neg h]
      rw [gl_fuel hx k j (nx n) (by omega) (by omega)]
def gn (dg : Nat → Int) (nx : Nat → Nat) (n : Nat) : List Int := gl dg nx n n
theorem gn_zero (dg : Nat → Int) (nx : Nat → Nat) : gn dg nx 0 = [] := rfl
theorem gn_pos {dg : Nat → Int} {nx : Nat → Nat} (hx : ∀ n, 0 < n → nx n < n) {n : Nat} (hn : 0 < n) : gn dg nx n = dg n :: gn dg nx (nx n) := by
  obtain ⟨k, rfl⟩ : ∃ k, n = k + 1 := ⟨n - 1, by omega⟩
  have := hx (k + 1) hn
  unfold gn
  show (if k + 1 = 0 then [] else _) = _
  rw [if_neg (by omega), gl_fuel hx k (nx (k + 1)) (nx (k + 1)) (by omega) (Nat.le_refl _)]

/-- the value of digits, the lowest one first -/
def val (b : Int) : List Int → Int
  | [] => 0
  | t :: ts => t + val b ts * b
def cnt : List Int → Nat
  | [] => 0
  | t :: ts => t.natAbs + cnt ts
theorem cnt_app (a b : List Int) : cnt (a ++ b) = cnt a + cnt b := by
  induction a with
  | nil => simp [cnt]
  | cons t ts ih => simp [cnt, ih]; omega

/-- what is left behind k digits -/
theorem gn_drop {dg : Nat → Int} {nx : Nat → Nat} (hx : ∀ n, 0 < n → nx n < n) : ∀ k n, k < (gn dg nx n).length → ∃ m, 0 < m ∧ m ≤ n ∧ (gn dg nx n).drop k = gn dg nx m
  | 0, n, h => ⟨n, by
      by_cases h0 : n = 0
      · subst h0; simp [gn_zero] at h
      · omega, Nat.le_refl _, rfl⟩
  | k + 1, n, h => by
    by_cases h0 : n = 0
    · subst h0; simp [gn_zero] at h
    · have h1 := hx n (by omega)
      rw [gn_pos hx (by omega)] at h ⊢
      obtain ⟨m, h2, h3, h4⟩ := gn_drop hx k (nx n) (by simpa using h)
      exact ⟨m, h2, by omega, by simpa using h4⟩
theorem gn_val {dg : Nat → Int} {nx : Nat → Nat} {b : Int} (hx : ∀ n, 0 < n → nx n < n) (hv : ∀ n, 0 < n → dg n + (nx n : Int) * b = n) (n : Nat) : val b (gn dg nx n) = n := by
  induction n using Nat.strongRecOn with
  | ind n ih =>
    by_cases h : n = 0
    · subst h; rfl
    · rw [gn_pos hx (by omega)]
      show dg n + val b _ * b = _
      rw [ih _ (hx n (by omega)), hv n (by omega)]
theorem gn_len {dg : Nat → Int} {nx : Nat → Nat} (hx : ∀ n, 0 < n → nx n < n) (hh : ∀ n, 0 < n → nx n ≤ (n + 1) / 2) : ∀ k n, n ≤ 2 ^ k → (gn dg nx n).length ≤ k + 2
  | 0, n, h => by
    by_cases h0 : n = 0
    · subst h0; simp [gn_zero]
    · obtain rfl : n = 1 := by simp at h; omega
      have := hx 1 (by omega)
      rw [gn_pos hx (by omega), show nx 1 = 0 by omega]; simp [gn_zero]
  | k + 1, n, h => by
    by_cases h0 : n = 0
    · subst h0; simp [gn_zero]
    · have := hh n (by omega)
      rw [Nat.pow_succ] at h
      rw [gn_pos hx (by omega)]
      have := gn_len (dg := dg) hx hh k (nx n) (by omega)
      simp; omega
theorem gn_at {dg : Nat → Int} {nx : Nat → Nat} (hx : ∀ n, 0 < n → nx n < n) (k n : Nat) (h : k < (gn dg nx n).length) : ∃ m, 0 < m ∧ m ≤ n ∧ (gn dg nx n)[k]? = some (dg m) := by
  obtain ⟨m, h1, h2, h3⟩ := gn_drop (dg := dg) hx k n h
  refine ⟨m, h1, h2, ?_⟩
  have : (gn dg nx n)[k]? = ((gn dg nx n).drop k)[0]? := by simp
  rw [this, h3, gn_pos hx h1]; rfl
theorem gn_last {dg : Nat → Int} {nx : Nat → Nat} {b : Int} (hx : ∀ n, 0 < n → nx n < n) (hv : ∀ n, 0 < n → dg n + (nx n : Int) * b = n) (n : Nat) (k : Nat) (h : k + 1 = (gn dg nx n).length) : ∃ t, (gn dg nx n)[k]? = some t ∧ t ≠ 0 := by
  obtain ⟨m, h1, h2, h3⟩ := gn_drop (dg := dg) hx k n (by omega)
  have hl : ((gn dg nx n).drop k).length = 1 := by simp; omega
  have e : (gn dg nx n)[k]? = ((gn dg nx n).drop k)[0]? := by simp
  have hval := gn_val hx hv m
  rw [← h3] at hval
  generalize (gn dg nx n).drop k = l at *
  obtain ⟨t, rfl⟩ := List.length_eq_one_iff.1 hl
  refine ⟨t, by rw [e]; rfl, ?_⟩
  simp [val] at hval
  omega

/-! the digits of a number, and the rule -/
def lowT (b d q : Nat) : Bool := decide (2 * d < b) || (decide (2 * d = b) && decide (2 * (q % b) + 1 < b))
def dgP (b n : Nat) : Int := ((n % b : Nat) : Int)
def nxP (b n : Nat) : Nat := n / b
def dgF (b n : Nat) : Int := if lowT b (n % b) (n / b) = true then ((n % b : Nat) : Int) else ((n % b : Nat) : Int) - (b : Int)
def nxF (b n : Nat) : Nat := if lowT b (n % b) (n / b) = true then n / b else n / b + 1
theorem lowT_iff {b d q : Nat} : lowT b d q = true ↔ (2 * d < b ∨ (2 * d = b ∧ 2 * (q % b) + 1 < b)) := by simp [lowT]
theorem dm {b : Nat} (n : Nat) : n / b * b + n % b = n := by rw [Nat.mul_comm]; exact Nat.div_add_mod n b
theorem two_q {b : Nat} (hb : 2 ≤ b) (q : Nat) : 2 * q ≤ q * b := by rw [Nat.mul_comm q b]; exact Nat.mul_le_mul_right q hb
theorem nxP_half {b : Nat} (hb : 2 ≤ b) (n : Nat) (_hn : 0 < n) : nxP b n ≤ (n + 1) / 2 := by
  have h1 := dm (b := b) n
  have h2 := two_q hb (n / b)
  unfold nxP; omega
theorem nxP_lt {b : Nat} (hb : 2 ≤ b) (n : Nat) (hn : 0 < n) : nxP b n < n := by
  have h1 := dm (b := b) n
  have h2 := two_q hb (n / b)
  unfold nxP; omega
theorem nxF_half {b : Nat} (hb : 2 ≤ b) (n : Nat) (_hn : 0 < n) : nxF b n ≤ (n + 1) / 2 := by
  have h1 := dm (b := b) n
  have h2 := two_q hb (n / b)
  unfold nxF
  split
  · omega
  · rename_i h
    rw [lowT_iff] at h
    omega
theorem nxF_lt {b : Nat} (hb : 2 ≤ b) (n : Nat) (hn : 0 < n) : nxF b n < n := by
  have h0 := nxF_half hb n hn
  by_cases h1 : n = 1
  · subst h1
    have e1 : (1 : Nat) / b = 0 := Nat.div_eq_of_lt hb
    have e2 : (1 : Nat) % b = 1 := Nat.mod_eq_of_lt hb
    unfold nxF
    rw [e1, e2, if_pos (lowT_iff.2 (by rw [Nat.zero_mod]; omega))]
    omega
  · omega
theorem dgP_val {b : Nat} (n : Nat) (_hn : 0 < n) : dgP b n + (nxP b n : Int) * (b : Int) = n := by
  have h1 := dm (b := b) n
  unfold dgP nxP
  rw [← Int.natCast_mul]
  omega
theorem dgF_val {b : Nat} (n : Nat) (_hn : 0 < n) : dgF b n + (nxF b n : Int) * (b : Int) = n := by
  have h1 := dm (b := b) n
  unfold dgF nxF
  split
  · rw [← Int.natCast_mul]; omega
  · rw [Int.natCast_add, Int.add_mul, ← Int.natCast_mul]; omega
theorem dgP_bd {b : Nat} (hb : 2 ≤ b) (n : Nat) : -(b : Int) ≤ dgP b n ∧ dgP b n ≤ b := by
  have := Nat.mod_lt n (show 0 < b by omega)
  unfold dgP; omega
theorem dgF_bd {b : Nat} (hb : 2 ≤ b) (n : Nat) : -(b : Int) ≤ dgF b n ∧ dgF b n ≤ b := by
  have := Nat.mod_lt n (show 0 < b by omega)
  unfold dgF; split <;> omega
abbrev few (b n : Nat) : List Int := gn (dgF b) (nxF b) n
abbrev pln (b n : Nat) : List Int := gn (dgP b) (nxP b) n

/-- the turns that the rule needs -/
def cst (b n : Nat) : Nat := cnt (few b n)
theorem cst_zero (b : Nat) : cst b 0 = 0 := rfl
theorem cst_div {b : Nat} (hb : 2 ≤ b) (n : Nat) : cst b n = if lowT b (n % b) (n / b) = true then n % b + cst b (n / b) else (b - n % b) + cst b (n / b + 1) := by
  by_cases h : n = 0
  · subst h
    rw [Nat.zero_mod, Nat.zero_div, if_pos (lowT_iff.2 (by omega))]; simp
  · have hm := Nat.mod_lt n (show 0 < b by omega)
    unfold cst few
    rw [gn_pos (nxF_lt hb) (by omega)]
    show (dgF b n).natAbs + cnt (gn (dgF b) (nxF b) (nxF b n)) = _
    unfold dgF nxF
    split
    · rw [Int.natAbs_natCast]
    · rw [show (((n % b : Nat) : Int) - (b : Int)).natAbs = b - n % b by omega]
def LipA (b m : Nat) : Prop := cst b (m + 1) ≤ cst b m + 1 ∧ cst b m ≤ cst b (m + 1) + 1
theorem succ_in {b : Nat} (n : Nat) (h : n % b + 1 < b) : (n + 1) % b = n % b + 1 ∧ (n + 1) / b = n / b := by
  have h1 := dm (b := b) n
  have e : n + 1 = n % b + 1 + b * (n / b) := by rw [Nat.mul_comm]; omega
  refine ⟨?_, ?_⟩
  · rw [e, Nat.add_mul_mod_self_left, Nat.mod_eq_of_lt h]
  · rw [e, Nat.add_mul_div_left _ _ (by omega), Nat.div_eq_of_lt h, Nat.zero_add]
theorem succ_up {b : Nat} (n : Nat) (hb : 2 ≤ b) (h : n % b + 1 = b) : (n + 1) % b = 0 ∧ (n + 1) / b = n / b + 1 := by
  have h1 := dm (b := b) n
  have e : n + 1 = b * (n / b + 1) := by rw [Nat.mul_add, Nat.mul_comm b (n / b)]; omega
  refine ⟨?_, ?_⟩
  · rw [e, Nat.mul_mod_right]
  · rw [e, Nat.mul_div_cancel_left _ (by omega)]
theorem cst_in {b : Nat} (hb : 2 ≤ b) (n : Nat) (h : n % b + 1 < b) : cst b (n + 1) = if lowT b (n % b + 1) (n / b) = true then n % b + 1 + cst b (n / b) else (b - (n % b + 1)) + cst b (n / b + 1) := by
  obtain ⟨h1, h2⟩ := succ_in n h
  rw [cst_div hb (n + 1), h1, h2]
theorem cst_up {b : Nat} (hb : 2 ≤ b) (n : Nat) (h : n % b + 1 = b) : cst b (n + 1) = cst b (n / b + 1) := by
  obtain ⟨h1, h2⟩ := succ_up n hb h
  rw [cst_div hb (n + 1), h1, h2, if_pos (lowT_iff.2 (by omega)), Nat.zero_add]
theorem cst_mul {b : Nat} (hb : 2 ≤ b) (n : Nat) : cst b (n * b) = cst b n := by
  rw [cst_div hb, Nat.mul_mod_left, Nat.mul_div_cancel _ (by omega), if_pos (lowT_iff.2 (by omega)), Nat.zero_add]
theorem cst_rise {b : Nat} (hb : 2 ≤ b) (q : Nat) (hr : LipA b (q / b)) (h : 2 * (q % b) + 1 < b) : cst b q ≤ cst b (q + 1) := by
  have h1 := cst_div hb q
  have h2 := cst_in hb q (by omega)
  rw [if_pos (lowT_iff.2 (by omega))] at h1
  obtain ⟨h3, h4⟩ := hr
  split at h2
  · omega
  · rename_i hl
    rw [lowT_iff] at hl
    omega
theorem cst_fall {b : Nat} (hb : 2 ≤ b) (q : Nat) (hr : LipA b (q / b)) (h : b ≤ 2 * (q % b)) : cst b (q + 1) ≤ cst b q := by
  have hm := Nat.mod_lt q (show 0 < b by omega)
  have h1 := cst_div hb q
  obtain ⟨h3, h4⟩ := hr
  by_cases hu : q % b + 1 = b
  · have h2 := cst_up hb q hu
    split at h1 <;> omega
  · have h2 := cst_in hb q (by omega)
    rw [if_neg (by rw [lowT_iff]; omega)] at h2
    split at h1 <;> omega
theorem lip0 {b : Nat} (hb : 2 ≤ b) : LipA b 0 := by
  have e1 : (1 : Nat) / b = 0 := Nat.div_eq_of_lt hb
  have e2 : (1 : Nat) % b = 1 := Nat.mod_eq_of_lt hb
  have h := cst_div hb 1
  rw [e1, e2, if_pos (lowT_iff.2 (by rw [Nat.zero_mod]; omega)), cst_zero] at h
  unfold LipA
  rw [cst_zero, Nat.zero_add, h]; omega
theorem lip {b : Nat} (hb : 2 ≤ b) (m : Nat) : LipA b m := by
  induction m using Nat.strongRecOn with
  | ind m ih =>
    by_cases h0 : m = 0
    · subst h0; exact lip0 hb
    · have hdm := dm (b := b) m
      have htq := two_q hb (m / b)
      have hm := Nat.mod_lt m (show 0 < b by omega)
      have hq : m / b < m := Nat.div_lt_self (by omega) hb
      have hq2 : m / b / b < m := Nat.lt_of_le_of_lt (Nat.div_le_self _ _) hq
      obtain ⟨a1, a2⟩ := ih _ hq
      have hR := cst_rise hb (m / b) (ih _ hq2)
      have hF := cst_fall hb (m / b) (ih _ hq2)
      have h1 := cst_div hb m
      unfold LipA
      by_cases hu : m % b + 1 = b
      · have h2 := cst_up hb m hu
        split at h1
        · rename_i hl
          rw [lowT_iff] at hl
          have := hR (by omega)
          omega
        · omega
      · have h2 := cst_in hb m (by omega)
        by_cases l1 : lowT b (m % b) (m / b) = true
        · rw [if_pos l1] at h1
          by_cases l2 : lowT b (m % b + 1) (m / b) = true
          · rw [if_pos l2] at h2; omega
          · rw [if_neg l2] at h2
            rw [lowT_iff] at l1 l2
            rcases l1 with l1 | ⟨l1, l3⟩
            · by_cases e : 2 * (m % b + 1) = b
              · have hb2 : b ≤ 2 * (m / b % b) := by omega
                have := hF hb2
                omega
              · omega
            · have := hR l3
              omega
        · rw [if_neg l1] at h1
          rw [if_neg (by rw [lowT_iff] at l1 ⊢; omega)] at h2
          omega

/-- the turns that the rule needs for a number with its sign -/
def cz (b : Nat) (z : Int) : Nat := cst b z.natAbs
theorem cz_up {b : Nat} (hb : 2 ≤ b) (z : Int) : cz b (z + 1) ≤ cz b z + 1 ∧ cz b z ≤ cz b (z + 1) + 1 := by
  unfold cz
  by_cases h : 0 ≤ z
  · obtain ⟨m, rfl⟩ := Int.eq_ofNat_of_zero_le h
    rw [show ((m : Int) + 1).natAbs = m + 1 by omega, Int.natAbs_natCast]
    exact lip hb m
  · obtain ⟨m, hm⟩ : ∃ m : Nat, z = -((m : Int) + 1) := ⟨(-z - 1).toNat, by omega⟩
    subst hm
    rw [show (-((m : Int) + 1) + 1).natAbs = m by omega, show (-((m : Int) + 1)).natAbs = m + 1 by omega]
    exact ⟨(lip hb m).2, (lip hb m).1⟩
theorem cz_add {b : Nat} (hb : 2 ≤ b) (z : Int) : ∀ k : Nat, cz b (z + k) ≤ cz b z + k ∧ cz b (z - k) ≤ cz b z + k
  | 0 => by simp
  | k + 1 => by
    obtain ⟨h1, h2⟩ := cz_add hb z k
    have h3 := cz_up hb (z + k)
    have h4 := cz_up hb (z - (k + 1 : Nat))
    rw [show z - ((k + 1 : Nat) : Int) + 1 = z - k by omega] at h4
    rw [show z + ((k + 1 : Nat) : Int) = z + k + 1 by omega]
    omega
theorem cz_step {b : Nat} (hb : 2 ≤ b) (z t : Int) : cz b (t + z * (b : Int)) ≤ t.natAbs + cz b z := by
  have h1 : cz b (z * (b : Int)) = cz b z := by
    unfold cz
    rw [Int.natAbs_mul, Int.natAbs_natCast, cst_mul hb]
  have h2 := cz_add hb (z * (b : Int)) t.natAbs
  rw [h1] at h2
  by_cases h : 0 ≤ t
  · rw [show t + z * (b : Int) = z * (b : Int) + (t.natAbs : Int) by omega]; omega
  · rw [show t + z * (b : Int) = z * (b : Int) - (t.natAbs : Int) by omega]; omega
/-- no turns are fewer -/
theorem cz_least {b : Nat} (hb : 2 ≤ b) : ∀ l : List Int, cz b (val b l) ≤ cnt l
  | [] => by simp [val, cz, cst_zero]
  | t :: ts => by
    have h1 := cz_least hb ts
    have h2 := cz_step hb (val b ts) t
    show cz b (t + val b ts * b) ≤ t.natAbs + cnt ts
    omega
end Go.Proofs.Ytdljlemgaefbpaa
