/- Mended rows, part 1: guesses and odd rows in plain words. -/
import Derived.Test.YtdljlemgaefbpaaU5
import Derived.Test.YtdljlemgaefbpaaFew2
import Derived.Test.YtdljlemgaefbpaaNm1
namespace Go.Proofs.Ytdljlemgaefbpaa
open Go.RowKit Go.Joins

/-- the guess for a row, by the first k rows beside it -/
def gT (f : Nat → Int) (o row j : Nat) : Int := (if j % 2 = 1 then 1 else -1) * ((ch o j : Nat) : Int) * (if row < o then f (row + j) else f (row - j))
def gS (f : Nat → Int) (o row : Nat) : Nat → Int
  | 0 => 0
  | k + 1 => gS f o row k + gT f o row (k + 1)
def due (f : Nat → Int) (o row : Nat) : Int := gS f o row o
def isV (x : Int) : Bool := inB x (-1000000000000) 1000000000000
/-- a table whose values are values -/
def Vals (m : Nat) (f : Nat → Int) : Prop := ∀ i, i < m → -1000000000000 ≤ f i ∧ f i ≤ 1000000000000
theorem gT_abs {f : Nat → Int} {o row j : Nat} {x : Int} (hx : (if row < o then f (row + j) else f (row - j)) = x) : gT f o row j = if j % 2 = 1 then ((ch o j : Nat) : Int) * x else -(((ch o j : Nat) : Int) * x) := by
  unfold gT
  rw [hx]
  split
  · rw [Int.one_mul]
  · rw [Int.neg_mul, Int.one_mul, Int.neg_mul]
theorem gS_bd {m o row : Nat} {f : Nat → Int} (hv : Vals m f) (ho : o ≤ 8) (hm : 2 * o + 1 ≤ m) (hr : row < m) : ∀ k, k ≤ o → -((k : Int) * 70000000000000) ≤ gS f o row k ∧ gS f o row k ≤ (k : Int) * 70000000000000
  | 0, _ => by show -(((0 : Nat) : Int) * 70000000000000) ≤ 0 ∧ (0 : Int) ≤ ((0 : Nat) : Int) * 70000000000000; omega
  | k + 1, hk => by
    have h1 := gS_bd hv ho hm hr k (by omega)
    have h2 : -70000000000000 ≤ gT f o row (k + 1) ∧ gT f o row (k + 1) ≤ 70000000000000 := by
      obtain ⟨x, hx⟩ : ∃ x, (if row < o then f (row + (k + 1)) else f (row - (k + 1))) = x := ⟨_, rfl⟩
      have hxb : -1000000000000 ≤ x ∧ x ≤ 1000000000000 := by
        rw [← hx]
        split
        · exact hv _ (by omega)
        · exact hv _ (by omega)
      rw [gT_abs hx]
      have h3 := abs_mul (a := ((ch o (k + 1) : Nat) : Int)) (b := x) (A := 70) (B := 1000000000000) (by have := (bin_ch o (by omega) (k + 1) (by omega)).2.2; omega) (by omega)
      split <;> omega
    show -(((k + 1 : Nat) : Int) * 70000000000000) ≤ gS f o row k + gT f o row (k + 1) ∧ gS f o row k + gT f o row (k + 1) ≤ ((k + 1 : Nat) : Int) * 70000000000000
    omega
theorem gS_congr {f g : Nat → Int} {o row : Nat} (h : ∀ i, i ≠ row → (row < o ∨ i < row) → f i = g i) (ho : row < o ∨ o ≤ row) : ∀ k, k ≤ o → gS f o row k = gS g o row k
  | 0, _ => rfl
  | k + 1, hk => by
    show gS f o row k + gT f o row (k + 1) = gS g o row k + gT g o row (k + 1)
    rw [gS_congr h ho k (by omega)]
    congr 1
    unfold gT
    by_cases hr : row < o
    · rw [if_pos hr, if_pos hr, h (row + (k + 1)) (by omega) (.inl hr)]
    · rw [if_neg hr, if_neg hr, h (row - (k + 1)) (by omega) (.inr (by omega))]

/-- one row is looked at -/
def oHit (o : Nat) (f : Nat → Int) (row : Nat) : Bool := !(f row == due f o row)
def oF (o : Nat) (f : Nat → Int) : Nat → (Nat → Int)
  | 0 => f
  | k + 1 => if oHit o (oF o f k) (o + k) && isV (due (oF o f k) o (o + k)) then put (oF o f k) (o + k) (due (oF o f k) o (o + k)) else oF o f k
def oL (o : Nat) (f : Nat → Int) : Nat → List Int
  | 0 => []
  | k + 1 => if oHit o (oF o f k) (o + k) then oL o f k ++ [((o + k : Nat) : Int)] else oL o f k
theorem oF_vals {o m : Nat} {f : Nat → Int} (h : Vals m f) : ∀ k, Vals m (oF o f k)
  | 0 => h
  | k + 1 => by
    have ih := oF_vals h (o := o) k
    unfold oF
    split
    · rename_i hc
      rw [Bool.and_eq_true] at hc
      intro i hi
      show _ ≤ (if i = o + k then due (oF o f k) o (o + k) else oF o f k i) ∧ (if i = o + k then due (oF o f k) o (o + k) else oF o f k i) ≤ _
      split
      · exact inB_iff.1 hc.2
      · exact ih i hi
    · exact ih
theorem oL_len (o : Nat) (f : Nat → Int) : ∀ k, (oL o f k).length ≤ k
  | 0 => Nat.le_refl _
  | k + 1 => by
    have := oL_len o f k
    unfold oL
    split
    · rw [List.length_append, List.length_singleton]; omega
    · omega
theorem oL_nil {o : Nat} {f : Nat → Int} : ∀ k, oL o f k = [] → oF o f k = f ∧ ∀ j, j < k → oHit o f (o + j) = false
  | 0, _ => ⟨rfl, fun j hj => by omega⟩
  | k + 1, h => by
    unfold oL at h
    split at h
    · simp at h
    · rename_i hc
      obtain ⟨e, ha⟩ := oL_nil k h
      rw [e] at hc
      have hc' : oHit o f (o + k) = false := by simpa using hc
      refine ⟨?_, fun j hj => ?_⟩
      · unfold oF
        rw [e, hc', Bool.false_and]
        rfl
      · by_cases hjk : j = k
        · rw [hjk]; exact hc'
        · exact ha j (by omega)
/-- the first odd row -/
theorem oL_first {o : Nat} {f : Nat → Int} {x : Int} {rest : List Int} : ∀ K, oL o f K = x :: rest → ∃ k, k < K ∧ x = ((o + k : Nat) : Int) ∧ oL o f k = [] ∧ oHit o f (o + k) = true
  | 0, h => by simp [oL] at h
  | K + 1, h => by
    cases hl : oL o f K with
    | nil =>
      obtain ⟨e, _⟩ := oL_nil K hl
      unfold oL at h
      rw [hl, e] at h
      split at h
      · rename_i hc
        injection h with h1 h2
        exact ⟨K, by omega, h1.symm, hl, hc⟩
      · cases h
    | cons y l =>
      have hy : y = x := by
        unfold oL at h
        rw [hl] at h
        split at h
        · injection h
        · injection h
      subst hy
      obtain ⟨k, h1, h2, h3, h4⟩ := oL_first K hl
      exact ⟨k, by omega, h2, h3, h4⟩
/-- the table in which the first odd row is mended -/
theorem mended {o : Nat} {f : Nat → Int} {x : Int} {rest : List Int} {K : Nat} (h : oL o f K = x :: rest) :
    ∃ k, k < K ∧ x = ((o + k : Nat) : Int) ∧ (isV (due f o (o + k)) = true → oL o (put f (o + k) (due f o (o + k))) K = rest) := by
  obtain ⟨k, hk, hx, hn, hh⟩ := oL_first K h
  refine ⟨k, hk, hx, fun hv => ?_⟩
  obtain ⟨eF, hno⟩ := oL_nil k hn
  have hb : ∀ j, j ≤ k → oHit o (put f (o + k) (due f o (o + k))) (o + j) = false := fun j hj => by
    have e1 : due (put f (o + k) (due f o (o + k))) o (o + j) = due f o (o + j) := gS_congr (fun i hi hr => by
      show (if i = o + k then due f o (o + k) else f i) = f i
      rw [if_neg (by omega)]) (.inr (by omega)) o (Nat.le_refl _)
    unfold oHit
    rw [e1]
    show (!((if o + j = o + k then due f o (o + k) else f (o + j)) == due f o (o + j))) = false
    by_cases hjk : j = k
    · subst hjk
      rw [if_pos rfl]
      simp
    · rw [if_neg (by omega)]
      have := hno j (by omega)
      unfold oHit at this
      exact this
  have hbF : ∀ j, j ≤ k + 1 → oF o (put f (o + k) (due f o (o + k))) j = put f (o + k) (due f o (o + k)) ∧ oL o (put f (o + k) (due f o (o + k))) j = [] := by
    intro j
    induction j with
    | zero => exact fun _ => ⟨rfl, rfl⟩
    | succ j ih =>
      intro hj
      obtain ⟨i1, i2⟩ := ih (by omega)
      constructor
      · unfold oF
        rw [i1, hb j (by omega), Bool.false_and]
        rfl
      · unfold oL
        rw [i1, hb j (by omega), i2]
        rfl
  have hall : ∀ j, oF o f (k + 1 + j) = oF o (put f (o + k) (due f o (o + k))) (k + 1 + j) ∧ oL o f (k + 1 + j) = ((o + k : Nat) : Int) :: oL o (put f (o + k) (due f o (o + k))) (k + 1 + j) := by
    intro j
    induction j with
    | zero =>
      obtain ⟨i1, i2⟩ := hbF (k + 1) (Nat.le_refl _)
      constructor
      · show oF o f (k + 1) = oF o _ (k + 1)
        rw [i1]
        unfold oF
        rw [eF, hh, hv]
        rfl
      · show oL o f (k + 1) = _ :: oL o _ (k + 1)
        rw [i2]
        unfold oL
        rw [eF, hh, hn]
        rfl
    | succ j ih =>
      obtain ⟨i1, i2⟩ := ih
      constructor
      · show (if oHit o (oF o f (k + 1 + j)) (o + (k + 1 + j)) && isV (due (oF o f (k + 1 + j)) o (o + (k + 1 + j))) then put (oF o f (k + 1 + j)) (o + (k + 1 + j)) (due (oF o f (k + 1 + j)) o (o + (k + 1 + j))) else oF o f (k + 1 + j)) = oF o _ (k + 1 + j + 1)
        rw [i1]
        rfl
      · show (if oHit o (oF o f (k + 1 + j)) (o + (k + 1 + j)) then oL o f (k + 1 + j) ++ [((o + (k + 1 + j) : Nat) : Int)] else oL o f (k + 1 + j)) = _ :: (if oHit o (oF o _ (k + 1 + j)) (o + (k + 1 + j)) then oL o _ (k + 1 + j) ++ [((o + (k + 1 + j) : Nat) : Int)] else oL o _ (k + 1 + j))
        rw [i1, i2]
        split <;> rfl
  have := (hall (K - (k + 1))).2
  rw [show k + 1 + (K - (k + 1)) = K by omega, h] at this
  injection this with _ h2
  exact h2.symm

/-- a valid page -/
def pgOk (nm : List UInt8) (a b : Int) (m : Nat) (f : Nat → Int) : Bool := isNm nm && inB a (-1000000) 1000000 && inB b 1 1000 && inB m 1 60 && inB (a + ((m : Int) - 1) * b) (-1000000) 1000000 && allN m (fun i => isV (f i))
theorem pgOk_out {nm : List UInt8} {a b : Int} {m : Nat} {f : Nat → Int} (h : pgOk nm a b m f = true) : 1 ≤ m ∧ m ≤ 60 ∧ Vals m f := by
  unfold pgOk at h
  simp only [Bool.and_eq_true] at h
  obtain ⟨⟨⟨⟨⟨_, _⟩, _⟩, hm⟩, _⟩, hv⟩ := h
  have := inB_iff.1 hm
  exact ⟨by omega, by omega, fun i hi => inB_iff.1 (allN_get hv hi)⟩
/-- the code of a page and an order -/
def gC (nm : List UInt8) (a b : Int) (m : Nat) (f : Nat → Int) (o : Int) : Int := if pgOk nm a b m f then (if inB o 1 8 then (if (m : Int) < 2 * o + 1 then 6 else 0) else 2) else 1
theorem gC_ok {nm : List UInt8} {a b : Int} {m : Nat} {f : Nat → Int} {o : Int} (h : gC nm a b m f o = 0) : pgOk nm a b m f = true ∧ (1 ≤ o ∧ o ≤ 8) ∧ 2 * o + 1 ≤ m := by
  unfold gC at h
  split at h
  · rename_i h1
    split at h
    · rename_i h2
      split at h
      · cases h
      · exact ⟨h1, inB_iff.1 h2, by omega⟩
    · cases h
  · cases h
theorem gC_cases (nm : List UInt8) (a b : Int) (m : Nat) (f : Nat → Int) (o : Int) : gC nm a b m f o = 0 ∨ gC nm a b m f o = 1 ∨ gC nm a b m f o = 2 ∨ gC nm a b m f o = 6 := by
  unfold gC
  split
  · split
    · split
      · exact .inr (.inr (.inr rfl))
      · exact .inl rfl
    · exact .inr (.inr (.inl rfl))
  · exact .inr (.inl rfl)
/-- a mended page's code -/
def mC (nm : List UInt8) (a b : Int) (m : Nat) (f : Nat → Int) (row o : Int) : Int := if gC nm a b m f o = 0 then (if inB row 0 ((m : Int) - 1) then (if isV (due f o.toNat row.toNat) then 0 else 5) else 2) else gC nm a b m f o
end Go.Proofs.Ytdljlemgaefbpaa
