/- Roots, part 1: the plain computation and what holds of it. -/
import Derived.Test.YthdlepejbikofaaLib
namespace Go.Proofs.Ythdlepejbikofaa

/-- the digits of a number of a base, the least one first -/
def prs (B : Nat) : Nat → Nat → List Nat
  | 0, _ => []
  | f + 1, v => if 0 < v then v % B :: prs B f (v / B) else []
theorem prs_nil (B f : Nat) : prs B f 0 = [] := by cases f <;> simp [prs]
theorem prs_step (B f v : Nat) (hv : 0 < v) (hf : v ≤ f) (hB : 2 ≤ B) : ∃ f', prs B f v = v % B :: prs B f' (v / B) ∧ v / B ≤ f' := by
  cases f with
  | zero => omega
  | succ f =>
    have := Nat.div_lt_self hv hB
    exact ⟨f, by simp [prs, hv], by omega⟩
theorem prs_get (B : Nat) : ∀ (f v : Nat), ∀ i (h : i < (prs B f v).length), (prs B f v)[i] = v / B ^ i % B := by
  intro f
  induction f with
  | zero => intro v i h; simp [prs] at h
  | succ f ih =>
    intro v i h
    by_cases hv : 0 < v
    · have e : prs B (f + 1) v = v % B :: prs B f (v / B) := by simp [prs, hv]
      cases i with
      | zero => simp [e]
      | succ i =>
        have h' : i < (prs B f (v / B)).length := by rw [e] at h; simpa using h
        have := ih (v / B) i h'
        simp only [e, List.getElem_cons_succ, this]
        rw [Nat.div_div_eq_div_mul, Nat.pow_succ, Nat.mul_comm B]
    · have e : prs B (f + 1) v = [] := by simp [prs, hv]
      rw [e] at h; simp at h
theorem prs_end (B : Nat) (hB : 2 ≤ B) : ∀ (f v : Nat), v ≤ f → v / B ^ (prs B f v).length = 0 := by
  intro f
  induction f with
  | zero => intro v h; simp [prs]; omega
  | succ f ih =>
    intro v h
    by_cases hv : 0 < v
    · have e : prs B (f + 1) v = v % B :: prs B f (v / B) := by simp [prs, hv]
      have h1 := Nat.div_lt_self hv hB
      have := ih (v / B) (by omega)
      rw [Nat.div_div_eq_div_mul] at this
      rw [e, List.length_cons, Nat.pow_succ, Nat.mul_comm (B ^ _)]
      exact this
    · have : v = 0 := by omega
      subst this
      simp

structure RSt where
  root : Nat
  rest : Nat
  turns : List Nat
def subR : Nat → RSt → RSt
  | 0, st => st
  | f + 1, st => if 2 * st.root + 1 ≤ st.rest then subR f ⟨st.root + 1, st.rest - (2 * st.root + 1), st.turns ++ [2 * st.root + 1]⟩ else st
theorem subR_stop (f : Nat) (st : RSt) (h : ¬ 2 * st.root + 1 ≤ st.rest) : subR f st = st := by
  cases f <;> simp [subR, h]
theorem subR_step (f : Nat) (st : RSt) (h : 2 * st.root + 1 ≤ st.rest) (hf : st.rest ≤ f) : ∃ f', subR f st = subR f' ⟨st.root + 1, st.rest - (2 * st.root + 1), st.turns ++ [2 * st.root + 1]⟩ ∧ st.rest - (2 * st.root + 1) ≤ f' := by
  cases f with
  | zero => omega
  | succ f => exact ⟨f, by simp [subR, h], by omega⟩
def entR (b : Nat) (st : RSt) (p : Nat) : RSt := ⟨st.root * b, st.rest * b * b + p, st.turns⟩
def stepR (b : Nat) (st : RSt) (p : Nat) : RSt := subR (st.rest * b * b + p) (entR b st p)
def runR (b : Nat) : RSt → List Nat → RSt
  | st, [] => st
  | st, p :: ps => runR b (stepR b st p) ps
def rootR (b v : Nat) : RSt := runR b ⟨0, 0, []⟩ (prs (b * b) v v).reverse

/-- the sum of the digits -/
def dsum (b : Nat) : Nat → Nat → Nat
  | 0, _ => 0
  | f + 1, n => if 0 < n then n % b + dsum b f (n / b) else 0
theorem dsum_zero (b f : Nat) : dsum b f 0 = 0 := by cases f <;> simp [dsum]
theorem dsum_fuel (b : Nat) (hb : 2 ≤ b) : ∀ (f g n : Nat), n ≤ f → n ≤ g → dsum b f n = dsum b g n := by
  intro f
  induction f with
  | zero => intro g n h _; obtain rfl : n = 0 := by omega
            rw [dsum_zero, dsum_zero]
  | succ f ih =>
    intro g n h1 h2
    cases g with
    | zero => obtain rfl : n = 0 := by omega
              rw [dsum_zero, dsum_zero]
    | succ g =>
      by_cases hn : 0 < n
      · have := Nat.div_lt_self hn hb
        simp only [dsum, if_pos hn]
        rw [ih g (n / b) (by omega) (by omega)]
      · simp [dsum, hn]
theorem dsum_step (b f n : Nat) (hb : 2 ≤ b) (hn : 0 < n) (hf : n ≤ f) : ∃ f', dsum b f n = n % b + dsum b f' (n / b) ∧ n / b ≤ f' := by
  cases f with
  | zero => omega
  | succ f =>
    have := Nat.div_lt_self hn hb
    exact ⟨f, by simp [dsum, hn], by omega⟩
theorem dsum_app (b r d : Nat) (hb : 2 ≤ b) (hd : d < b) : dsum b (r * b + d) (r * b + d) = dsum b r r + d := by
  by_cases h0 : r * b + d = 0
  · have hd0 : d = 0 := by omega
    have hr0 : r = 0 := by
      rcases Nat.eq_zero_or_pos r with h | h
      · exact h
      · have := Nat.mul_pos h (by omega : 0 < b); omega
    subst hd0 hr0
    simp [dsum_zero]
  · obtain ⟨f', h1, h2⟩ := dsum_step b (r * b + d) (r * b + d) hb (by omega) (Nat.le_refl _)
    have e1 : (r * b + d) % b = d := by rw [Nat.mul_comm, Nat.mul_add_mod, Nat.mod_eq_of_lt hd]
    have e2 : (r * b + d) / b = r := by
      rw [Nat.mul_comm, Nat.mul_add_div (by omega), Nat.div_eq_of_lt hd, Nat.add_zero]
    rw [e1, e2] at h1
    rw [e2] at h2
    rw [h1, dsum_fuel b hb f' r r h2 (Nat.le_refl _)]
    omega

/-- in the midst of the subtractions: P is the number that root and rest make, r0 the root at their begin, n0 the turns -/
def MidR (P r0 n0 : Nat) (st : RSt) : Prop := st.root * st.root + st.rest = P ∧ st.turns.length + r0 = n0 + st.root ∧ (∀ x ∈ st.turns, x % 2 = 1) ∧ st.turns.length ≤ st.root ∧ r0 ≤ st.root
theorem MidR.step {P r0 n0 : Nat} {st : RSt} (h : MidR P r0 n0 st) (hs : 2 * st.root + 1 ≤ st.rest) : MidR P r0 n0 ⟨st.root + 1, st.rest - (2 * st.root + 1), st.turns ++ [2 * st.root + 1]⟩ := by
  obtain ⟨h1, h2, h3, h4, h5⟩ := h
  refine ⟨?_, ?_, ?_, ?_, by show r0 ≤ st.root + 1; omega⟩
  · show (st.root + 1) * (st.root + 1) + (st.rest - (2 * st.root + 1)) = P
    have : (st.root + 1) * (st.root + 1) = st.root * st.root + (2 * st.root + 1) := by
      rw [Nat.add_mul, Nat.mul_add]; omega
    omega
  · simp only [List.length_append, List.length_singleton]; omega
  · intro x hx
    rcases List.mem_append.1 hx with hx | hx
    · exact h3 x hx
    · rw [List.mem_singleton.1 hx]; omega
  · simp only [List.length_append, List.length_singleton]; omega
theorem subR_mid (P r0 n0 : Nat) : ∀ (f : Nat) (st : RSt), st.rest ≤ f → MidR P r0 n0 st → MidR P r0 n0 (subR f st) ∧ (subR f st).rest ≤ 2 * (subR f st).root := by
  intro f
  induction f with
  | zero => intro st h hm; exact ⟨hm, by show st.rest ≤ 2 * st.root; omega⟩
  | succ f ih =>
    intro st h hm
    unfold subR
    split
    · next hs => exact ih _ (by show st.rest - (2 * st.root + 1) ≤ f; omega) (hm.step hs)
    · exact ⟨hm, by omega⟩

/-- between two pairs -/
def InvR (b P : Nat) (st : RSt) : Prop := st.root * st.root + st.rest = P ∧ st.rest ≤ 2 * st.root ∧ (∀ x ∈ st.turns, x % 2 = 1) ∧ st.turns.length ≤ st.root ∧ dsum b st.root st.root = st.turns.length
theorem sq_mul (a b : Nat) : a * b * (a * b) = a * a * (b * b) := by
  rw [Nat.mul_assoc, Nat.mul_comm b (a * b), Nat.mul_assoc a b b, ← Nat.mul_assoc]
theorem InvR.enter {b P p : Nat} {st : RSt} (h : InvR b P st) (hb : 2 ≤ b) : MidR (P * (b * b) + p) (st.root * b) st.turns.length (entR b st p) := by
  obtain ⟨h1, h2, h3, h4, h5⟩ := h
  refine ⟨?_, rfl, h3, ?_, Nat.le_refl _⟩
  · show st.root * b * (st.root * b) + (st.rest * b * b + p) = _
    rw [sq_mul, Nat.mul_assoc st.rest, ← Nat.add_assoc, ← Nat.add_mul, h1]
  · show st.turns.length ≤ st.root * b
    have := Nat.le_mul_of_pos_right st.root (by omega : 0 < b)
    omega
theorem InvR.leave {b P p : Nat} {st st' : RSt} (h : InvR b P st) (hb : 2 ≤ b) (hp : p < b * b) (hm : MidR (P * (b * b) + p) (st.root * b) st.turns.length st') (hr : st'.rest ≤ 2 * st'.root) : InvR b (P * (b * b) + p) st' := by
  obtain ⟨h1, h2, h3, h4, h5⟩ := h
  obtain ⟨m1, m2, m3, m4, m5⟩ := hm
  refine ⟨m1, hr, m3, m4, ?_⟩
  obtain ⟨d, hd⟩ : ∃ d, st'.turns.length = st.turns.length + d := ⟨st'.turns.length - st.turns.length, by omega⟩
  have hroot : st'.root = st.root * b + d := by omega
  have hdb : d < b := by
    refine Nat.lt_of_not_le fun hge => ?_
    have g1 : (st.root + 1) * b ≤ st'.root := by rw [hroot, Nat.add_mul]; omega
    have g2 := Nat.mul_le_mul g1 g1
    rw [sq_mul] at g2
    have g3 : (st.root + 1) * (st.root + 1) = st.root * st.root + (2 * st.root + 1) := by rw [Nat.add_mul, Nat.mul_add]; omega
    have g4 : P + 1 ≤ (st.root + 1) * (st.root + 1) := by omega
    have g5 := Nat.mul_le_mul_right (b * b) g4
    rw [Nat.add_mul] at g5
    omega
  rw [hroot, dsum_app b st.root d hb hdb, h5, hd]
end Go.Proofs.Ythdlepejbikofaa
