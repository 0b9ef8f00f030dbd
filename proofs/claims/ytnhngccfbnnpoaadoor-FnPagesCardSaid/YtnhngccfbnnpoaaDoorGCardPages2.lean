/- Merged texts: M1, M2, Nm2, Nm3, M3, Dec, Dn1, Note, Jr1, Jr2, Jr3, Rn1, Rn2, Rn5, Rn6, Sp1, Sp2, Rn3. -/
import Derived.Test.YtnhngccfbnnpoaaDoorGCardPages1
import Derived.Test.YtnhngccfbnnpoaaDoorShelf
import Derived.Lib.SmallJoins
import Derived.Lib.ItoaMem
import Derived.Lib.LaidTab
/- Mended rows, part 1: guesses and odd rows in plain words. -/
namespace Go.Proofs.YtnhngccfbnnpoaaDoor
open Go.RowKit Go.Joins

/-- the guess for a row, by the first k rows beside it -/
def gT (f : Nat → Int) (o row j : Nat) : Int := (if j % 2 = 1 then 1 else -1) * ((ch o j : Nat) : Int) * (if row < o then f (row + j) else f (row - j))
def gS (f : Nat → Int) (o row : Nat) : Nat → Int
  | 0 => 0
  | k + 1 => gS f o row k + gT f o row (k + 1)
def due (f : Nat → Int) (o row : Nat) : Int := gS f o row o
def isV (x : Int) : Bool := inB x (-1000000000000) 1000000000000
/-- a table whose values are values -/
def Vals (m : Nat) (f : Nat → Int) : Prop := ∀ i, i < m → -1000000000000 ≤ f i ∧ f i ≤ 1000000000000
theorem gT_abs {f : Nat → Int} {o row j : Nat} {x : Int} (hx : (if row < o then f (row + j) else f (row - j)) = x) : gT f o row j = if j % 2 = 1 then ((ch o j : Nat) : Int) * x else -(((ch o j : Nat) : Int) * x) := by
  unfold gT
  rw [hx]
  split
  · rw [Int.one_mul]
  · rw [Int.neg_mul, Int.one_mul, Int.neg_mul]
theorem gS_bd {m o row : Nat} {f : Nat → Int} (hv : Vals m f) (ho : o ≤ 8) (hm : 2 * o + 1 ≤ m) (hr : row < m) : ∀ k, k ≤ o → -((k : Int) * 70000000000000) ≤ gS f o row k ∧ gS f o row k ≤ (k : Int) * 70000000000000
  | 0, _ => by show -(((0 : Nat) : Int) * 70000000000000) ≤ 0 ∧ (0 : Int) ≤ ((0 : Nat) : Int) * 70000000000000; omega
  | k + 1, hk => by
    have h1 := gS_bd hv ho hm hr k (by omega)
    have h2 : -70000000000000 ≤ gT f o row (k + 1) ∧ gT f o row (k + 1) ≤ 70000000000000 := by
      obtain ⟨x, hx⟩ : ∃ x, (if row < o then f (row + (k + 1)) else f (row - (k + 1))) = x := ⟨_, rfl⟩
      have hxb : -1000000000000 ≤ x ∧ x ≤ 1000000000000 := by
        rw [← hx]
        split
        · exact hv _ (by omega)
        · exact hv _ (by omega)
      rw [gT_abs hx]
      have h3 := abs_mul (a := ((ch o (k + 1) : Nat) : Int)) (b := x) (A := 70) (B := 1000000000000) (by have := (bin_ch o (by omega) (k + 1) (by omega)).2.2; omega) (by omega)
      split <;> omega
    show -(((k + 1 : Nat) : Int) * 70000000000000) ≤ gS f o row k + gT f o row (k + 1) ∧ gS f o row k + gT f o row (k + 1) ≤ ((k + 1 : Nat) : Int) * 70000000000000
    omega
theorem gS_congr {f g : Nat → Int} {o row : Nat} (h : ∀ i, i ≠ row → (row < o ∨ i < row) → f i = g i) (ho : row < o ∨ o ≤ row) : ∀ k, k ≤ o → gS f o row k = gS g o row k
  | 0, _ => rfl
  | k + 1, hk => by
    show gS f o row k + gT f o row (k + 1) = gS g o row k + gT g o row (k + 1)
    rw [gS_congr h ho k (by omega)]
    congr 1
    unfold gT
    by_cases hr : row < o
    · rw [if_pos hr, if_pos hr, h (row + (k + 1)) (by omega) (.inl hr)]
    · rw [if_neg hr, if_neg hr, h (row - (k + 1)) (by omega) (.inr (by omega))]

/-- one row is looked at -/
def oHit (o : Nat) (f : Nat → Int) (row : Nat) : Bool := !(f row == due f o row)
def oF (o : Nat) (f : Nat → Int) : Nat → (Nat → Int)
  | 0 => f
  | k + 1 => if oHit o (oF o f k) (o + k) && isV (due (oF o f k) o (o + k)) then put (oF o f k) (o + k) (due (oF o f k) o (o + k)) else oF o f k
def oL (o : Nat) (f : Nat → Int) : Nat → List Int
  | 0 => []
  | k + 1 => if oHit o (oF o f k) (o + k) then oL o f k ++ [((o + k : Nat) : Int)] else oL o f k
theorem oF_vals {o m : Nat} {f : Nat → Int} (h : Vals m f) : ∀ k, Vals m (oF o f k)
  | 0 => h
  | k + 1 => by
    have ih := oF_vals h (o := o) k
    unfold oF
    split
    · rename_i hc
      rw [Bool.and_eq_true] at hc
      intro i hi
      show _ ≤ (if i = o + k then due (oF o f k) o (o + k) else oF o f k i) ∧ (if i = o + k then due (oF o f k) o (o + k) else oF o f k i) ≤ _
      split
      · exact inB_iff.1 hc.2
      · exact ih i hi
    · exact ih
theorem oL_len (o : Nat) (f : Nat → Int) : ∀ k, (oL o f k).length ≤ k
  | 0 => Nat.le_refl _
  | k + 1 => by
    have := oL_len o f k
    unfold oL
    split
    · rw [List.length_append, List.length_singleton]; omega
    · omega
theorem oL_nil {o : Nat} {f : Nat → Int} : ∀ k, oL o f k = [] → oF o f k = f ∧ ∀ j, j < k → oHit o f (o + j) = false
  | 0, _ => ⟨rfl, fun j hj => by omega⟩
  | k + 1, h => by
    unfold oL at h
    split at h
    · simp at h
    · rename_i hc
      obtain ⟨e, ha⟩ := oL_nil k h
      rw [e] at hc
      have hc' : oHit o f (o + k) = false := by simpa using hc
      refine ⟨?_, fun j hj => ?_⟩
      · unfold oF
        rw [e, hc', Bool.false_and]
        rfl
      · by_cases hjk : j = k
        · rw [hjk]; exact hc'
        · exact ha j (by omega)
/-- the first odd row -/
theorem oL_first {o : Nat} {f : Nat → Int} {x : Int} {rest : List Int} : ∀ K, oL o f K = x :: rest → ∃ k, k < K ∧ x = ((o + k : Nat) : Int) ∧ oL o f k = [] ∧ oHit o f (o + k) = true
  | 0, h => by simp [oL] at h
  | K + 1, h => by
    cases hl : oL o f K with
    | nil =>
      obtain ⟨e, _⟩ := oL_nil K hl
      unfold oL at h
      rw [hl, e] at h
      split at h
      · rename_i hc
        injection h with h1 h2
        exact ⟨K, by omega, h1.symm, hl, hc⟩
      · cases h
    | cons y l =>
      have hy : y = x := by
        unfold oL at h
        rw [hl] at h
        split at h
        · injection h
        · injection h
      subst hy
      obtain ⟨k, h1, h2, h3, h4⟩ := oL_first K hl
      exact ⟨k, by omega, h2, h3, h4⟩
/-- the table in which the first odd row is mended -/
theorem mended {o : Nat} {f : Nat → Int} {x : Int} {rest : List Int} {K : Nat} (h : oL o f K = x :: rest) :
    ∃ k, k < K ∧ x = ((o + k : Nat) : Int) ∧ (isV (due f o (o + k)) = true → oL o (put f (o + k) (due f o (o + k))) K = rest) := by
  obtain ⟨k, hk, hx, hn, hh⟩ := oL_first K h
  refine ⟨k, hk, hx, fun hv => ?_⟩
  obtain ⟨eF, hno⟩ := oL_nil k hn
  have hb : ∀ j, j ≤ k → oHit o (put f (o + k) (due f o (o + k))) (o + j) = false := fun j hj => by
    have e1 : due (put f (o + k) (due f o (o + k))) o (o + j) = due f o (o + j) := gS_congr (fun i hi hr => by
      show (if i = o + k then due f o (o + k) else f i) = f i
      rw [if_neg (by omega)]) (.inr (by omega)) o (Nat.le_refl _)
    unfold oHit
    rw [e1]
    show (!((if o + j = o + k then due f o (o + k) else f (o + j)) == due f o (o + j))) = false
    by_cases hjk : j = k
    · subst hjk
      rw [if_pos rfl]
      simp
    · rw [if_neg (by omega)]
      have := hno j (by omega)
      unfold oHit at this
      exact this
  have hbF : ∀ j, j ≤ k + 1 → oF o (put f (o + k) (due f o (o + k))) j = put f (o + k) (due f o (o + k)) ∧ oL o (put f (o + k) (due f o (o + k))) j = [] := by
    intro j
    induction j with
    | zero => exact fun _ => ⟨rfl, rfl⟩
    | succ j ih =>
      intro hj
      obtain ⟨i1, i2⟩ := ih (by omega)
      constructor
      · unfold oF
        rw [i1, hb j (by omega), Bool.false_and]
        rfl
      · unfold oL
        rw [i1, hb j (by omega), i2]
        rfl
  have hall : ∀ j, oF o f (k + 1 + j) = oF o (put f (o + k) (due f o (o + k))) (k + 1 + j) ∧ oL o f (k + 1 + j) = ((o + k : Nat) : Int) :: oL o (put f (o + k) (due f o (o + k))) (k + 1 + j) := by
    intro j
    induction j with
    | zero =>
      obtain ⟨i1, i2⟩ := hbF (k + 1) (Nat.le_refl _)
      constructor
      · show oF o f (k + 1) = oF o _ (k + 1)
        rw [i1]
        unfold oF
        rw [eF, hh, hv]
        rfl
      · show oL o f (k + 1) = _ :: oL o _ (k + 1)
        rw [i2]
        unfold oL
        rw [eF, hh, hn]
        rfl
    | succ j ih =>
      obtain ⟨i1, i2⟩ := ih
      constructor
      · show (if oHit o (oF o f (k + 1 + j)) (o + (k + 1 + j)) && isV (due (oF o f (k + 1 + j)) o (o + (k + 1 + j))) then put (oF o f (k + 1 + j)) (o + (k + 1 + j)) (due (oF o f (k + 1 + j)) o (o + (k + 1 + j))) else oF o f (k + 1 + j)) = oF o _ (k + 1 + j + 1)
        rw [i1]
        rfl
      · show (if oHit o (oF o f (k + 1 + j)) (o + (k + 1 + j)) then oL o f (k + 1 + j) ++ [((o + (k + 1 + j) : Nat) : Int)] else oL o f (k + 1 + j)) = _ :: (if oHit o (oF o _ (k + 1 + j)) (o + (k + 1 + j)) then oL o _ (k + 1 + j) ++ [((o + (k + 1 + j) : Nat) : Int)] else oL o _ (k + 1 + j))
        rw [i1, i2]
        split <;> rfl
  have := (hall (K - (k + 1))).2
  rw [show k + 1 + (K - (k + 1)) = K by omega, h] at this
  injection this with _ h2
  exact h2.symm

/-- a valid page -/
def pgOk (nm : List UInt8) (a b : Int) (m : Nat) (f : Nat → Int) : Bool := isNm nm && inB a (-1000000) 1000000 && inB b 1 1000 && inB m 1 60 && inB (a + ((m : Int) - 1) * b) (-1000000) 1000000 && allN m (fun i => isV (f i))
theorem pgOk_out {nm : List UInt8} {a b : Int} {m : Nat} {f : Nat → Int} (h : pgOk nm a b m f = true) : 1 ≤ m ∧ m ≤ 60 ∧ Vals m f := by
  unfold pgOk at h
  simp only [Bool.and_eq_true] at h
  obtain ⟨⟨⟨⟨⟨_, _⟩, _⟩, hm⟩, _⟩, hv⟩ := h
  have := inB_iff.1 hm
  exact ⟨by omega, by omega, fun i hi => inB_iff.1 (allN_get hv hi)⟩
/-- the code of a page and an order -/
def gC (nm : List UInt8) (a b : Int) (m : Nat) (f : Nat → Int) (o : Int) : Int := if pgOk nm a b m f then (if inB o 1 8 then (if (m : Int) < 2 * o + 1 then 6 else 0) else 2) else 1
theorem gC_ok {nm : List UInt8} {a b : Int} {m : Nat} {f : Nat → Int} {o : Int} (h : gC nm a b m f o = 0) : pgOk nm a b m f = true ∧ (1 ≤ o ∧ o ≤ 8) ∧ 2 * o + 1 ≤ m := by
  unfold gC at h
  split at h
  · rename_i h1
    split at h
    · rename_i h2
      split at h
      · cases h
      · exact ⟨h1, inB_iff.1 h2, by omega⟩
    · cases h
  · cases h
theorem gC_cases (nm : List UInt8) (a b : Int) (m : Nat) (f : Nat → Int) (o : Int) : gC nm a b m f o = 0 ∨ gC nm a b m f o = 1 ∨ gC nm a b m f o = 2 ∨ gC nm a b m f o = 6 := by
  unfold gC
  split
  · split
    · split
      · exact .inr (.inr (.inr rfl))
      · exact .inl rfl
    · exact .inr (.inr (.inl rfl))
  · exact .inr (.inl rfl)
/-- a mended page's code -/
def mC (nm : List UInt8) (a b : Int) (m : Nat) (f : Nat → Int) (row o : Int) : Int := if gC nm a b m f o = 0 then (if inB row 0 ((m : Int) - 1) then (if isV (due f o.toNat row.toNat) then 0 else 5) else 2) else gC nm a b m f o
end Go.Proofs.YtnhngccfbnnpoaaDoor
/- Mended rows, part 2: guesses. -/
namespace Go.Proofs.YtnhngccfbnnpoaaDoor
open Go.RowKit Go.Joins

theorem gT_up {f : Nat → Int} {o row j : Nat} {x : Int} (hr : row < o) (hx : f (row + j) = x) (hp : j % 2 = 1) : gT f o row j = ((ch o j : Nat) : Int) * x := by rw [gT_abs (x := x) (by rw [if_pos hr]; exact hx), if_pos hp]
theorem gT_up' {f : Nat → Int} {o row j : Nat} {x : Int} (hr : row < o) (hx : f (row + j) = x) (hp : ¬ j % 2 = 1) : gT f o row j = -(((ch o j : Nat) : Int) * x) := by rw [gT_abs (x := x) (by rw [if_pos hr]; exact hx), if_neg hp]
theorem gT_dn {f : Nat → Int} {o row j : Nat} {x : Int} (hr : ¬ row < o) (hx : f (row - j) = x) (hp : j % 2 = 1) : gT f o row j = ((ch o j : Nat) : Int) * x := by rw [gT_abs (x := x) (by rw [if_neg hr]; exact hx), if_pos hp]
theorem gT_dn' {f : Nat → Int} {o row j : Nat} {x : Int} (hr : ¬ row < o) (hx : f (row - j) = x) (hp : ¬ j % 2 = 1) : gT f o row j = -(((ch o j : Nat) : Int) * x) := by rw [gT_abs (x := x) (by rw [if_neg hr]; exact hx), if_neg hp]
def sgj (j : Nat) : Int := if j % 2 = 1 then 1 else -1
end Go.Proofs.YtnhngccfbnnpoaaDoor
/- Names, part 2: the walks of IsName. -/
namespace Go.Proofs.YtnhngccfbnnpoaaDoor
open Go.RowKit Go.Joins

theorem okC_sm {x : Nat} (h : smC x = true) : okC x = true := by simp [okC, h]
theorem okC_dg {x : Nat} (h : dgC x = true) : okC x = true := by simp [okC, h]
theorem okC_da {x : Nat} (h : x = 45) : okC x = true := by simp [okC, h]
theorem okC_no {x : Nat} (h : smC x = false) (h2 : dgC x = false) (h3 : x ≠ 45) : okC x = false := by simp [okC, h, h2, h3]

set_option maxRecDepth 100000 in
set_option maxHeartbeats 1600000 in
theorem IsNameI_any (s : ByteArray) (w : World) (hs : s.size ≤ 1048576) :
    Calls Tryd.prog 74 #[.string s] w fun e w' => e = .returned (.bool (isNm s.data.toList)) ∧ w = w' := by
  have hsz : s.data.toList.length = s.size := by simp
  have Hsz := Lib.hid hsz; clear hsz
  by_cases h0 : s.size = 0
  · have hfin := Lib.hid (show isNm s.data.toList = false by
      have he : s.data.toList = [] := List.eq_nil_of_length_eq_zero (by rw [Hsz.out, h0])
      rw [he]; rfl)
    have hq : ((s.size : Int) == 0) = true := by simp [h0]
    clear h0
    go_enter Tryd.func74, Tryd.ntmps74
    go_wp2_with fail
    go_ret
    rw [hfin.out]; exact ⟨rfl, rfl⟩
  · have hq : ((s.size : Int) == 0) = false := by simpa using h0
    by_cases h12 : 12 < s.size
    · have hfin := Lib.hid (isNm_long s.data.toList (by rw [Hsz.out]; exact h12))
      have hq2 : (12 : Int) < (s.size : Int) := by omega
      clear h0
      go_enter Tryd.func74, Tryd.ntmps74
      go_wp2_with fail
      go_ret
      rw [hfin.out]; exact ⟨rfl, rfl⟩
    · have hq2 : (s.size : Int) ≤ 12 := by omega
      have hp : 0 < s.data.toList.length := by rw [Hsz.out]; omega
      have Hp := Lib.hid hp
      go_enter Tryd.func74, Tryd.ntmps74
      go_wp2_with fail
      go_loop [15] (fun i => ∃ k : Nat, k ≤ s.size ∧ ((s.data.toList.take k).all fun c => okC c.toNat) = true ∧ (0 < k → smC (s.data.toList[0]'hp).toNat = true) ∧ i = .int .i64 k) (fun i => s.size - (intOf i).toNat)
      case atStart => exact ⟨0, Nat.zero_le _, rfl, by omega, rfl⟩
      case round =>
        obtain ⟨k, hk, hall, hfst, rfl⟩ := hrel
        have Hall := Lib.hid hall; clear hall
        have Hfst := Lib.hid hfst; clear hfst
        by_cases hlt : k < s.size
        · have hkl : k < s.data.toList.length := by rw [Hsz.out]; exact hlt
          have Hbad := Lib.hid (show okC s[k].toNat = false → isNm s.data.toList = false from fun h => isNm_bad s.data.toList k hkl h)
          have Hst := Lib.hid (show okC s[k].toNat = true → ((s.data.toList.take (k + 1)).all fun c => okC c.toNat) = true from fun h => all_step s.data.toList k hkl Hall.out h)
          have Hfk := Lib.hid (show smC s[k].toNat = true → smC (s.data.toList[0]'hp).toNat = true from fun h => by
            by_cases hk0 : k = 0
            · subst hk0; exact h
            · exact Hfst.out (by omega))
          have Hf0 := Lib.hid (show k = 0 → smC s[k].toNat = false → isNm s.data.toList = false from fun h h2 => isNm_first s.data.toList hp (by subst h; exact h2))
          have hx8 := s[k].toNat_lt
          have hx9 : (s[k].toNat : Int) < 256 := by omega
          have HD := Lib.hid (fun wx => isDigit_any s[k].toNat wx)
          clear hx8
          have hlt' : (k : Int) < (s.size : Int) := by omega
          by_cases hk0 : k = 0
          · have hqk : ((k : Int) == 0) = true := by simp [hk0]
            rcases chr_cases s[k].toNat with ⟨c1, c2, c3⟩ | ⟨c1, c2, c3, c4⟩ | ⟨c1, c2, c3⟩ | ⟨c1, c2, c3, c4⟩ | ⟨c1, c2, c3, c4⟩
            · have hst := Lib.hid (Hst.out (okC_sm c1))
              have hf := Lib.hid (Hfk.out c1)
              clear Hbad Hst Hfk Hf0 c1 hk0
              have d1 : (97 : Int) ≤ (s[k].toNat : Int) := by omega
              have d2 : (s[k].toNat : Int) ≤ 122 := by omega
              go_wp2_with fail
              go_round
              case rel => exact ⟨k + 1, by omega, hst.out, fun _ => hf.out, by go_num⟩
              case measure => simp [intOf]; omega
            all_goals
              have hfin := Lib.hid (Hf0.out hk0 c1)
              clear Hbad Hst Hfk Hf0 c1 c2 hk0
              rcases Nat.lt_or_ge s[k].toNat 97 with d0 | d0
              · first
                | (exfalso; omega)
                | (have d1 : (s[k].toNat : Int) < 97 := by omega
                   go_wp2_with fail
                   go_ret
                   rw [hfin.out]; exact ⟨rfl, rfl⟩)
              · first
                | (exfalso; omega)
                | (have d1 : (97 : Int) ≤ (s[k].toNat : Int) := by omega
                   have d2 : decide ((s[k].toNat : Int) ≤ 122) = false := by rw [decide_eq_false_iff_not]; omega
                   go_wp2_with fail
                   go_ret
                   rw [hfin.out]; exact ⟨rfl, rfl⟩)
          · have hqk : ((k : Int) == 0) = false := by simpa using hk0
            have hf := Lib.hid (Hfst.out (by omega))
            rcases chr_cases s[k].toNat with ⟨c1, c2, c3⟩ | ⟨c1, c2, c3, c4⟩ | ⟨c1, c2, c3⟩ | ⟨c1, c2, c3, c4⟩ | ⟨c1, c2, c3, c4⟩
            · have hst := Lib.hid (Hst.out (okC_sm c1))
              clear Hbad Hst Hfk Hf0 c1 hk0
              have d1 : (97 : Int) ≤ (s[k].toNat : Int) := by omega
              have d2 : (s[k].toNat : Int) ≤ 122 := by omega
              go_wp2_with fail
              go_round
              case rel => exact ⟨k + 1, by omega, hst.out, fun _ => hf.out, by go_num⟩
              case measure => simp [intOf]; omega
            · have hst := Lib.hid (Hst.out (okC_dg c2))
              rw [c2] at HD
              clear Hbad Hst Hfk Hf0 c1 c2 hk0
              have d1 : (s[k].toNat : Int) < 97 := by omega
              have d3 : ((s[k].toNat : Int) != 45) = true := by rw [bne_iff_ne]; omega
              go_wp2_with fail
              refine (HD.out _).mono ?_; rintro e w1 ⟨rfl, rfl⟩
              go_wp2_with fail
              go_round
              case rel => exact ⟨k + 1, by omega, hst.out, fun _ => hf.out, by go_num⟩
              case measure => simp [intOf]; omega
            · have hst := Lib.hid (Hst.out (okC_da c3))
              clear Hbad Hst Hfk Hf0 c1 c2 hk0
              have d1 : (s[k].toNat : Int) < 97 := by omega
              have d3 : ((s[k].toNat : Int) != 45) = false := by simp [c3]
              clear c3
              go_wp2_with fail
              go_round
              case rel => exact ⟨k + 1, by omega, hst.out, fun _ => hf.out, by go_num⟩
              case measure => simp [intOf]; omega
            · have hfin := Lib.hid (Hbad.out (okC_no c1 c2 c3))
              rw [c2] at HD
              have d1 : (s[k].toNat : Int) < 97 := by omega
              have d3 : ((s[k].toNat : Int) != 45) = true := by rw [bne_iff_ne]; omega
              clear Hbad Hst Hfk Hf0 c1 c2 c3 hk0
              go_wp2_with fail
              refine (HD.out _).mono ?_; rintro e w1 ⟨rfl, rfl⟩
              go_wp2_with fail
              go_ret
              rw [hfin.out]; exact ⟨rfl, rfl⟩
            · have hfin := Lib.hid (Hbad.out (okC_no c1 c2 c3))
              rw [c2] at HD
              have d1 : (97 : Int) ≤ (s[k].toNat : Int) := by omega
              have d2 : decide ((s[k].toNat : Int) ≤ 122) = false := by rw [decide_eq_false_iff_not]; omega
              have d3 : ((s[k].toNat : Int) != 45) = true := by rw [bne_iff_ne]; omega
              clear Hbad Hst Hfk Hf0 c1 c2 c3 hk0
              go_wp2_with fail
              refine (HD.out _).mono ?_; rintro e w1 ⟨rfl, rfl⟩
              go_wp2_with fail
              go_ret
              rw [hfin.out]; exact ⟨rfl, rfl⟩
        · have hfin := Lib.hid (show isNm s.data.toList = true from isNm_yes _ hp (by rw [Hsz.out]; omega) (Hfst.out (by omega)) (by
            have := Hall.out
            rwa [List.take_of_length_le (by rw [Hsz.out]; omega)] at this))
          have hlt' : (s.size : Int) ≤ (k : Int) := by omega
          go_wp2_with fail
          go_ret
          rw [hfin.out]; exact ⟨rfl, rfl⟩
end Go.Proofs.YtnhngccfbnnpoaaDoor
/- Names, part 3: the reference's IsName. -/
namespace Go.Proofs.YtnhngccfbnnpoaaDoor
open Go.RowKit Go.Joins

theorem toList_ne {s : ByteArray} (h : s.size ≠ 0) : s.toList.isEmpty = false := by
  cases hs : s.toList.isEmpty with
  | false => rfl
  | true =>
    have h1 : s.toList = [] := by simpa using hs
    have h2 := congrArg List.length h1
    rw [ByteArray.toList_eq] at h2
    simp at h2
    exact absurd h2 (by simpa using h)

set_option maxRecDepth 100000 in
set_option maxHeartbeats 1600000 in
theorem IsNameS_any (s : ByteArray) (w : World) (hs : s.size ≤ 1048576) :
    Calls Tryd.prog 61 #[.string s] w fun e w' => e = .returned (.bool (isNm s.data.toList)) ∧ w = w' := by
  have hsz : s.data.toList.length = s.size := by simp
  have Hsz := Lib.hid hsz; clear hsz
  by_cases h0 : s.size = 0
  · obtain rfl : s = ⟨#[]⟩ := by
      obtain ⟨⟨l⟩⟩ := s
      have : l = [] := List.eq_nil_of_length_eq_zero h0
      rw [this]
    clear h0
    go_enter Tryd.func61, Tryd.ntmps61
    go_wp2_with fail
    go_ret
    exact ⟨rfl, rfl⟩
  · have he := toList_ne h0
    have hp : 0 < s.data.toList.length := by rw [Hsz.out]; omega
    have hp0 : 0 < s.size := by omega
    have hp1 : (0 : Int) < (s.size : Int) := by omega
    by_cases h12 : 12 < s.size
    · have hfin := Lib.hid (isNm_long s.data.toList (by rw [Hsz.out]; exact h12))
      have hq2 : (12 : Int) < (s.size : Int) := by omega
      clear h0
      go_enter Tryd.func61, Tryd.ntmps61
      go_wp2_with fail
      go_ret
      rw [hfin.out]; exact ⟨rfl, rfl⟩
    · have hq2 : (s.size : Int) ≤ 12 := by omega
      have HS := Lib.hid (fun wx => l01Small_any s[0].toNat wx)
      have hx8 := s[0].toNat_lt
      cases hsm : smC s[0].toNat with
      | false =>
        have hfin := Lib.hid (isNm_first s.data.toList hp hsm)
        rw [hsm] at HS
        clear hsm h0
        go_enter Tryd.func61, Tryd.ntmps61
        go_wp2_with fail
        refine (HS.out _).mono ?_; rintro e w1 ⟨rfl, rfl⟩
        go_wp2_with fail
        go_ret
        rw [hfin.out]; exact ⟨rfl, rfl⟩
      | true =>
        have Hyes := Lib.hid (fun h => isNm_yes s.data.toList hp (by rw [Hsz.out]; omega) hsm h)
        rw [hsm] at HS
        clear hsm h0
        go_enter Tryd.func61, Tryd.ntmps61
        go_wp2_with fail
        refine (HS.out _).mono ?_; rintro e w1 ⟨rfl, rfl⟩
        go_wp2_with fail
        go_loop [3] (fun i => ∃ k : Nat, k ≤ s.size ∧ ((s.data.toList.take k).all fun c => okC c.toNat) = true ∧ i = .int .i64 k) (fun i => s.size - (intOf i).toNat)
        case atStart => exact ⟨0, Nat.zero_le _, rfl, rfl⟩
        case round =>
          obtain ⟨k, hk, hall, rfl⟩ := hrel
          have Hall := Lib.hid hall; clear hall
          by_cases hlt : k < s.size
          · have hkl : k < s.data.toList.length := by rw [Hsz.out]; exact hlt
            have Hbad := Lib.hid (show okC s[k].toNat = false → isNm s.data.toList = false from fun h => isNm_bad s.data.toList k hkl h)
            have Hst := Lib.hid (show okC s[k].toNat = true → ((s.data.toList.take (k + 1)).all fun c => okC c.toNat) = true from fun h => all_step s.data.toList k hkl Hall.out h)
            have hx8 := s[k].toNat_lt
            have hx9 : (s[k].toNat : Int) < 256 := by omega
            have HC := Lib.hid (fun wx => l01Small_any s[k].toNat wx)
            have HD := Lib.hid (fun wx => l01Digit_any s[k].toNat wx)
            clear hx8
            have hlt' : (k : Int) < (s.size : Int) := by omega
            cases c1 : smC s[k].toNat with
            | true =>
              have hst := Lib.hid (Hst.out (okC_sm c1))
              rw [c1] at HC
              clear Hbad Hst c1
              go_wp2_with fail
              refine (HC.out _).mono ?_; rintro e w1 ⟨rfl, rfl⟩
              go_wp2_with fail
              go_round
              case rel => exact ⟨k + 1, by omega, hst.out, by go_num⟩
              case measure => simp [intOf]; omega
            | false =>
              rw [c1] at HC
              cases c2 : dgC s[k].toNat with
              | true =>
                have hst := Lib.hid (Hst.out (okC_dg c2))
                rw [c2] at HD
                clear Hbad Hst c1 c2
                go_wp2_with fail
                refine (HC.out _).mono ?_; rintro e w1 ⟨rfl, rfl⟩
                go_wp2_with fail
                refine (HD.out _).mono ?_; rintro e w1 ⟨rfl, rfl⟩
                go_wp2_with fail
                go_round
                case rel => exact ⟨k + 1, by omega, hst.out, by go_num⟩
                case measure => simp [intOf]; omega
              | false =>
                rw [c2] at HD
                by_cases c3 : s[k].toNat = 45
                · have hst := Lib.hid (Hst.out (okC_da c3))
                  have d3 : ((s[k].toNat : Int) != 45) = false := by simp [c3]
                  clear Hbad Hst c1 c2 c3
                  go_wp2_with fail
                  refine (HC.out _).mono ?_; rintro e w1 ⟨rfl, rfl⟩
                  go_wp2_with fail
                  refine (HD.out _).mono ?_; rintro e w1 ⟨rfl, rfl⟩
                  go_wp2_with fail
                  go_round
                  case rel => exact ⟨k + 1, by omega, hst.out, by go_num⟩
                  case measure => simp [intOf]; omega
                · have hfin := Lib.hid (Hbad.out (okC_no c1 c2 c3))
                  have d3 : ((s[k].toNat : Int) != 45) = true := by rw [bne_iff_ne]; omega
                  clear Hbad Hst c1 c2 c3
                  go_wp2_with fail
                  refine (HC.out _).mono ?_; rintro e w1 ⟨rfl, rfl⟩
                  go_wp2_with fail
                  refine (HD.out _).mono ?_; rintro e w1 ⟨rfl, rfl⟩
                  go_wp2_with fail
                  go_ret
                  rw [hfin.out]; exact ⟨rfl, rfl⟩
          · have hfin := Lib.hid (Hyes.out (by
              have := Hall.out
              rwa [List.take_of_length_le (by rw [Hsz.out]; omega)] at this))
            have hlt' : (s.size : Int) ≤ (k : Int) := by omega
            go_wp2_with fail
            go_ret
            rw [hfin.out]; exact ⟨rfl, rfl⟩
end Go.Proofs.YtnhngccfbnnpoaaDoor
/- Mended rows, part 3: valid pages. -/
namespace Go.Proofs.YtnhngccfbnnpoaaDoor
open Go.RowKit Go.Joins

theorem blk4 {w : World} {g : Nat} {a b c d : Value} {t : TypeId} (h : w.heap[g]? = some (.cells #[a, b, c, d] t (0, 0))) :
    w.cell? ⟨g, 0, none⟩ = some a ∧ w.cell? ⟨g, 1, none⟩ = some b ∧ w.cell? ⟨g, 2, none⟩ = some c ∧ w.cell? ⟨g, 3, none⟩ = some d ∧ ∀ i, w.frozen? ⟨g, i, none⟩ = false :=
  ⟨by rw [cell_of_row w g 0 _ _ _ h]; rfl, by rw [cell_of_row w g 1 _ _ _ h]; rfl, by rw [cell_of_row w g 2 _ _ _ h]; rfl, by rw [cell_of_row w g 3 _ _ _ h]; rfl, fun i => frozen_of_row w g i _ _ h⟩
/-- the last argument of a page -/
def lastA (a b : Int) (n : Nat) : Int := a + ((n : Int) - 1) * b
theorem prod_bd {n : Nat} {b : Int} (hn : 1 ≤ n ∧ n ≤ 60) (hb : 1 ≤ b ∧ b ≤ 1000) : 0 ≤ ((n : Int) - 1) * b ∧ ((n : Int) - 1) * b ≤ 59000 := by
  have h1 := Int.mul_nonneg (show 0 ≤ (n : Int) - 1 by omega) (show 0 ≤ b by omega)
  have h2 := abs_mul (a := (n : Int) - 1) (b := b) (A := 59) (B := 1000) (by omega) (by omega)
  omega
def hdOk (s : ByteArray) (a b : Int) (n : Nat) : Bool := isNm s.data.toList && inB b 1 1000 && inB n 1 60 && inB a (-1000000) 1000000 && decide (lastA a b n ≤ 1000000)
theorem pgOk_hd {s : ByteArray} {a b : Int} {n : Nat} {f : Nat → Int} : pgOk s.data.toList a b n f = (allN n (fun i => isV (f i)) && hdOk s a b n) := by
  unfold pgOk hdOk
  cases h1 : isNm s.data.toList <;> cases h2 : inB a (-1000000) 1000000 <;> cases h3 : inB b 1 1000 <;> cases h4 : inB (n : Int) 1 60 <;> cases h5 : allN n (fun i => isV (f i)) <;> try rfl
  all_goals
    have e : inB (a + ((n : Int) - 1) * b) (-1000000) 1000000 = decide (lastA a b n ≤ 1000000) := by
      have h2 := inB_iff.1 h2
      have h3 := inB_iff.1 h3
      have h4 := inB_iff.1 h4
      have hp := prod_bd (n := n) (b := b) (by omega) h3
      unfold lastA
      generalize ((n : Int) - 1) * b = P at *
      unfold inB
      rw [show decide (-1000000 ≤ a + P) = true by simp; omega]
      rfl
    rw [e]
    cases decide (lastA a b n ≤ 1000000) <;> rfl

theorem argument_c (s : ByteArray) (a b r : Int) (A : Option Addr) (n c : Nat) (w : World) (ha : -1000000 ≤ a ∧ a ≤ 1000000) (hP : 0 ≤ r * b ∧ r * b ≤ 59000) :
    Calls Tryd.prog 45 #[.agg #[.string s, .int .i64 a, .int .i64 b, .slice A n c], .int .i64 r] w fun e w' => e = .returned (.int .i64 (a + r * b)) ∧ Below w.heap.size w w' := by
  have hb1 := (Below.refl w.heap.size w).alloc (Nat.le_refl _) (.cells #[.string s, .int .i64 a, .int .i64 b, .slice A n c] 26)
  have Hb1 := Lib.hid hb1
  obtain ⟨f0, f1, f2, f3, _⟩ := blk4 (heap_alloc_new w (.cells #[.string s, .int .i64 a, .int .i64 b, .slice A n c] 26))
  obtain ⟨ha1, ha2⟩ := ha
  obtain ⟨P, hPe⟩ : ∃ P, r * b = P := ⟨_, rfl⟩
  rw [hPe] at hP
  obtain ⟨hP1, hP2⟩ := hP
  have hw : IntKind.i64.wrap (r * b) = P := by rw [hPe]; exact IntWalk.i64_in _ (by omega)
  have HP := Lib.hid hPe
  clear hb1 hPe
  go_enter Tryd.func45, Tryd.ntmps45
  go_wp2_with fail
  generalize w.alloc (.cells #[.string s, .int .i64 a, .int .i64 b, .slice A n c] 26) = w1 at *
  go_wp2_with fail
  go_ret
  exact ⟨ret_int (by rw [HP.out]), Hb1.out⟩
set_option maxRecDepth 100000 in
set_option maxHeartbeats 1600000 in
theorem validHead_c (s : ByteArray) (a b : Int) (A : Option Addr) (n c : Nat) (w : World) (hs : s.size ≤ 1048576) :
    Calls Tryd.prog 57 #[.agg #[.string s, .int .i64 a, .int .i64 b, .slice A n c], .int .i64 (n : Int)] w fun e w' => e = .returned (.bool (hdOk s a b n)) ∧ Below w.heap.size w w' := by
  have hb1 := (Below.refl w.heap.size w).alloc (Nat.le_refl _) (.cells #[.string s, .int .i64 a, .int .i64 b, .slice A n c] 26)
  have Hb1 := Lib.hid hb1
  obtain ⟨f0, f1, f2, f3, _⟩ := blk4 (heap_alloc_new w (.cells #[.string s, .int .i64 a, .int .i64 b, .slice A n c] 26))
  have HN := Lib.hid (fun wx => IsNameI_any s wx hs)
  have HB := Lib.hid (fun wx => between_any b 1 1000 wx)
  have HM := Lib.hid (fun wx => between_any (n : Int) 1 60 wx)
  have HA := Lib.hid (fun wx => between_any a (-1000000) 1000000 wx)
  have HG := Lib.hid (fun wx ha hP => argument_c s a b ((n : Int) - 1) A n c wx ha hP)
  clear hb1
  cases h1 : isNm s.data.toList with
  | false =>
    have E := Lib.hid (show hdOk s a b n = false by unfold hdOk; rw [h1]; rfl)
    rw [h1] at HN
    clear h1 HG
    go_enter Tryd.func57, Tryd.ntmps57
    go_wp2_with fail
    generalize w.alloc (.cells #[.string s, .int .i64 a, .int .i64 b, .slice A n c] 26) = w1 at *
    go_wp2_with fail
    refine (HN.out _).mono ?_; rintro e w1 ⟨rfl, rfl⟩
    go_wp2_with fail
    go_ret
    exact ⟨ret_bool E.out.symm, Hb1.out⟩
  | true =>
    cases h2 : inB b 1 1000 with
    | false =>
      have E := Lib.hid (show hdOk s a b n = false by unfold hdOk; rw [h1, h2]; rfl)
      rw [h1] at HN
      rw [h2] at HB
      clear h1 h2 HG
      go_enter Tryd.func57, Tryd.ntmps57
      go_wp2_with fail
      generalize w.alloc (.cells #[.string s, .int .i64 a, .int .i64 b, .slice A n c] 26) = w1 at *
      go_wp2_with fail
      refine (HN.out _).mono ?_; rintro e w1 ⟨rfl, rfl⟩
      go_wp2_with fail
      refine (HB.out _).mono ?_; rintro e w1 ⟨rfl, rfl⟩
      go_wp2_with fail
      go_ret
      exact ⟨ret_bool E.out.symm, Hb1.out⟩
    | true =>
      cases h3 : inB (n : Int) 1 60 with
      | false =>
        have E := Lib.hid (show hdOk s a b n = false by unfold hdOk; rw [h1, h2, h3]; rfl)
        rw [h1] at HN
        rw [h2] at HB
        rw [h3] at HM
        clear h1 h2 h3 HG
        go_enter Tryd.func57, Tryd.ntmps57
        go_wp2_with fail
        generalize w.alloc (.cells #[.string s, .int .i64 a, .int .i64 b, .slice A n c] 26) = w1 at *
        go_wp2_with fail
        refine (HN.out _).mono ?_; rintro e w1 ⟨rfl, rfl⟩
        go_wp2_with fail
        refine (HB.out _).mono ?_; rintro e w1 ⟨rfl, rfl⟩
        go_wp2_with fail
        refine (HM.out _).mono ?_; rintro e w1 ⟨rfl, rfl⟩
        go_wp2_with fail
        go_ret
        exact ⟨ret_bool E.out.symm, Hb1.out⟩
      | true =>
        cases h4 : inB a (-1000000) 1000000 with
        | false =>
          have E := Lib.hid (show hdOk s a b n = false by unfold hdOk; rw [h1, h2, h3, h4]; rfl)
          rw [h1] at HN
          rw [h2] at HB
          rw [h3] at HM
          rw [h4] at HA
          clear h1 h2 h3 h4 HG
          go_enter Tryd.func57, Tryd.ntmps57
          go_wp2_with fail
          generalize w.alloc (.cells #[.string s, .int .i64 a, .int .i64 b, .slice A n c] 26) = w1 at *
          go_wp2_with fail
          refine (HN.out _).mono ?_; rintro e w1 ⟨rfl, rfl⟩
          go_wp2_with fail
          refine (HB.out _).mono ?_; rintro e w1 ⟨rfl, rfl⟩
          go_wp2_with fail
          refine (HM.out _).mono ?_; rintro e w1 ⟨rfl, rfl⟩
          go_wp2_with fail
          refine (HA.out _).mono ?_; rintro e w1 ⟨rfl, rfl⟩
          go_wp2_with fail
          go_ret
          exact ⟨ret_bool E.out.symm, Hb1.out⟩
        | true =>
          have E := Lib.hid (show hdOk s a b n = decide (lastA a b n ≤ 1000000) by unfold hdOk; rw [h1, h2, h3, h4]; rfl)
          have hb := inB_iff.1 h2
          have hn := inB_iff.1 h3
          have ha := inB_iff.1 h4
          have hp := prod_bd (n := n) (b := b) (by omega) hb
          have HG := Lib.hid (fun wx => HG.out wx ha hp)
          unfold lastA at E
          generalize ((n : Int) - 1) * b = P at *
          rw [h1] at HN
          rw [h2] at HB
          rw [h3] at HM
          rw [h4] at HA
          clear h1 h2 h3 h4
          go_enter Tryd.func57, Tryd.ntmps57
          go_wp2_with fail
          generalize w.alloc (.cells #[.string s, .int .i64 a, .int .i64 b, .slice A n c] 26) = w1 at *
          go_wp2_with fail
          refine (HN.out _).mono ?_; rintro e w1 ⟨rfl, rfl⟩
          go_wp2_with fail
          refine (HB.out _).mono ?_; rintro e w1 ⟨rfl, rfl⟩
          go_wp2_with fail
          refine (HM.out _).mono ?_; rintro e w1 ⟨rfl, rfl⟩
          go_wp2_with fail
          refine (HA.out _).mono ?_; rintro e w1 ⟨rfl, rfl⟩
          go_wp2_with fail
          refine (HG.out _).mono ?_; rintro e w2 ⟨rfl, hb2⟩
          have Hb2 := Lib.hid (Hb1.out.trans (hb2.mono Hb1.out.size))
          clear hb2
          go_wp2_with fail
          go_ret
          exact ⟨ret_bool E.out.symm, Hb2.out⟩
set_option maxRecDepth 100000 in
set_option maxHeartbeats 1600000 in
theorem ValidPageI_c (B : Nat) (s : ByteArray) (a b : Int) (A : Option Addr) (n c : Nat) (f : Nat → Int) (w : World) (hs : s.size ≤ 1048576) (h : Rd w B (.slice A n c) n 1 (tab n f)) (hB : B ≤ w.heap.size) (hn : n ≤ 1000) :
    Calls Tryd.prog 29 #[.agg #[.string s, .int .i64 a, .int .i64 b, .slice A n c]] w fun e w' => e = .returned (.bool (pgOk s.data.toList a b n f)) ∧ Below w.heap.size w w' := by
  have hb1 := (Below.refl w.heap.size w).alloc (Nat.le_refl _) (.cells #[.string s, .int .i64 a, .int .i64 b, .slice A n c] 26)
  have Hb1 := Lib.hid hb1
  obtain ⟨f0, f1, f2, f3, _⟩ := blk4 (heap_alloc_new w (.cells #[.string s, .int .i64 a, .int .i64 b, .slice A n c] 26))
  have H := Lib.hid (h.below (hb1.mono hB))
  have HV := Lib.hid (fun wx => validHead_c s a b A n c wx hs)
  have Hpg := Lib.hid (pgOk_hd (s := s) (a := a) (b := b) (n := n) (f := f))
  clear hb1 h
  go_enter Tryd.func29, Tryd.ntmps29
  go_wp2_with fail
  generalize w.alloc (.cells #[.string s, .int .i64 a, .int .i64 b, .slice A n c] 26) = w1 at *
  go_wp2_with fail
  go_loop [8] (fun i => ∃ k : Nat, k ≤ n ∧ i = .int .i64 (k : Int) ∧ allN k (fun i => isV (f i)) = true) (fun i => n - (intOf i).toNat)
  case atStart => exact ⟨0, Nat.zero_le _, rfl, rfl⟩
  case round =>
    obtain ⟨k, hk, rfl, hall⟩ := hrel
    have Hall := Lib.hid hall
    clear hall
    by_cases hlt : k < n
    · obtain ⟨b1, o1, hA, _, hcc⟩ := rdF_all H.out (show 0 < n by omega)
      subst hA
      have q0 := hcc k hlt
      have hlt' : (k : Int) < (n : Int) := by omega
      have HB := Lib.hid (show ∀ wx, Calls Tryd.prog 51 #[.int .i64 (f k)] wx fun e w' => e = .returned (.bool (isV (f k))) ∧ wx = w' from fun wx => isValue_c (f k) wx)
      clear hcc
      cases hb : isV (f k) with
      | false =>
        have Hr := Lib.hid (show pgOk s.data.toList a b n f = false by rw [Hpg.out, allN_bad k hlt hb]; rfl)
        rw [hb] at HB
        clear hb
        generalize f k = x at *
        go_wp2_with fail
        refine (HB.out _).mono ?_; rintro e w1 ⟨rfl, rfl⟩
        go_wp2_with fail
        go_ret
        exact ⟨ret_bool Hr.out.symm, Hb1.out⟩
      | true =>
        have Hst := Lib.hid (allN_step (f := fun i => isV (f i)) Hall.out hb)
        rw [hb] at HB
        clear hb
        generalize f k = x at *
        go_wp2_with fail
        refine (HB.out _).mono ?_; rintro e w1 ⟨rfl, rfl⟩
        go_wp2_with fail
        go_round
        case rel => exact ⟨k + 1, by omega, by go_num, Hst.out⟩
        case measure => first | (simp [intOf]; done) | (simp [intOf]; omega)
    · obtain rfl : k = n := by omega
      have Hr := Lib.hid (show pgOk s.data.toList a b k f = hdOk s a b k by rw [Hpg.out, Hall.out]; rfl)
      go_wp2_with fail
      refine (HV.out _).mono ?_; rintro e w2 ⟨rfl, hb2⟩
      have Hb2 := Lib.hid (Hb1.out.trans (hb2.mono Hb1.out.size))
      clear hb2
      go_wp2_with fail
      go_ret
      exact ⟨ret_bool Hr.out.symm, Hb2.out⟩
end Go.Proofs.YtnhngccfbnnpoaaDoor
/- Decimal on both sides (strconv.FormatInt by the shelf's contract; l01Dec by its walk). -/
namespace Go.Proofs.YtnhngccfbnnpoaaDoor
open Go.RowKit Go.Joins

theorem infoB' : (Tryd.prog.info? 5).map (fun i => (i.zero, i.size, i.bytes)) = some (some (.int .u8 0), 1, 1) := by kernel_rfl

/-- the table of powers lies as its initialiser lays it -/
def Tab (w : World) : Prop := Lib.TabIs Tryd.prog w "internal/strconv.uint64pow10" .u64 Lib.pow10Tab
theorem gPow : Tryd.prog.globalNamed "internal/strconv.uint64pow10" = some 0 := by kernel_rfl
theorem Tab.keep {w w' : World} {B : Nat} (h : Tab w) (hb : Below B w w') (hB : w.heap.size ≤ B) : Tab w' := by
  unfold Tab Lib.TabIs World.var? at *
  rw [gPow] at *
  simp only [Option.bind_some] at *
  have hg : 0 < w.heap.size := by
    cases hh : w.heap[0]? with
    | none => rw [hh] at h; cases h
    | some o => exact (Array.getElem?_eq_some_iff.1 hh).1
  rw [hb.block _ (by omega)]
  exact h
theorem Tab.below {w w' : World} (h : Tab w) (hb : Below w.heap.size w w') : Tab w' := h.keep hb (Nat.le_refl _)

/-- decimals -/
def decS (n : Int) : ByteArray := ⟨(Lib.itoa n).toArray⟩

theorem below_app {w w' : World} (os : Array Obj) (h1 : w'.os = w.os) (h2 : w'.tape = w.tape) (h3 : w'.output = w.output) (h4 : w'.heap = w.heap ++ os) : Below w.heap.size w w' :=
  ⟨h1, h2, h3, by rw [h4]; simp, fun i hi => by rw [h4]; exact Array.getElem?_append_left hi⟩

set_option maxHeartbeats 400000 in
theorem Decimal_any (n : Int) (w : World) (h0 : -9223372036854775808 ≤ n) (h1 : n ≤ 9223372036854775807) (ht : Tab w) :
    Calls Tryd.prog 59 #[.int .i64 n] w fun e w' => e = .returned (.string (decS n)) ∧ Below w.heap.size w w' := by
  have HF := Lib.hid (Tryd.strconv_FormatInt_10 n h0 h1 w ht)
  clear h0 h1 ht
  go_enter Tryd.func59, Tryd.ntmps59
  go_wp2_with fail
  refine HF.out.mono ?_; rintro e w1 ⟨rfl, k, os, rfl⟩
  go_wp2_with fail
  go_ret
  exact ⟨rfl, below_app os rfl rfl rfl rfl⟩

/-- the digits in front of what is there -/
def ddL (u : Nat) (acc : List UInt8) : List UInt8 := if u = 0 then acc else Lib.decDigits u ++ acc
theorem ddL_step (u : Nat) (acc : List UInt8) (h : 0 < u) : ddL u acc = ddL (u / 10) (UInt8.ofNat (48 + u % 10) :: acc) := by
  unfold ddL
  rw [if_neg (by omega), Lib.decDigits]
  by_cases h10 : u < 10
  · rw [dif_pos h10, if_pos (by omega), show u % 10 = u by omega]
    rfl
  · rw [dif_neg h10, if_neg (by omega)]
    simp
theorem len19 (k L : Nat) (hk : 0 < k) (h : k * 10 ^ L ≤ 9223372036854775808) : L ≤ 18 := by
  by_cases hL : L ≤ 18
  · exact hL
  · exfalso
    have h1 : 10 ^ 19 ≤ 10 ^ L := Nat.pow_le_pow_right (by omega) (by omega)
    have h2 : 10 ^ L ≤ k * 10 ^ L := Nat.le_mul_of_pos_left _ hk
    have h3 : (10 : Nat) ^ 19 = 10000000000000000000 := by decide
    omega
theorem pow_step (k L N : Nat) (h : k * 10 ^ L ≤ N) : k / 10 * 10 ^ (L + 1) ≤ N := by
  have h1 : k / 10 * 10 ≤ k := by omega
  calc k / 10 * 10 ^ (L + 1) = k / 10 * 10 * 10 ^ L := by rw [Nat.pow_succ, Nat.mul_assoc, Nat.mul_comm 10]
    _ ≤ k * 10 ^ L := Nat.mul_le_mul_right _ h1
    _ ≤ N := h
theorem decDigits_ne (u : Nat) : (Lib.decDigits u).length ≠ 0 := by
  rw [Lib.decDigits]
  split <;> simp

theorem digB' (m : Nat) : IntKind.u8.wrap (48 + (m : Int) % 10) = ((UInt8.ofNat (48 + m % 10)).toNat : Int) := by
  rw [IntKind.wrap_u8]
  simp only [UInt8.toNat_ofNat']
  omega

/-- an owned row appended to a row that has just been made -/
theorem wpList_app_own {P : Program} {w : World} {ops : Array Oper} {rest : List Oper} {o : Oper} {a : Act} {Q : Exit → Act → World → Prop} (t e : TypeId) (z : Value) (size bytes : Nat)
    (ht : P.underlying t = some (.slice e)) (hinfo : (P.info? e).map (fun i => (i.zero, i.size, i.bytes)) = some (some z, size, bytes)) (hzs : z.cells.size = size) (hsz : 0 < size)
    (s x : Operand) (hgd : o.guard = none) (ho : o.op = .call { callee := .builtin .append, args := #[s, x], argTypes := #[t, t] })
    (base : Nat) (v : Value) (n : Nat) (xs : List Value) (hs : a.eval s = v) (hown : w.ownsRow base e size v n xs) (hv : v ≠ .slice none 0 0)
    (g m c : Nat) (news : List Value) (hx : a.eval x = .slice (some ⟨g, 0, none⟩) m c) (hr : ∀ j u, news[j]? = some u → w.cell? ⟨g, j, none⟩ = some u) (hl : news.length = m * size) (h1 : ∀ u ∈ news, u.oneCell' = true)
    (h63 : n + m ≤ maxLen) (hbytes : (n + m) * bytes ≤ 140737488355328) (hbase : base ≤ w.heap.size)
    (h : ∀ g' c' w', w'.ownsRow base e size (.slice (some ⟨g', 0, none⟩) (n + m) c') (n + m) (xs ++ news) → w.grownBy w' v.ownBlock → wpList P ops Q rest (a.put o.dst (.slice (some ⟨g', 0, none⟩) (n + m) c')) w') :
    wpList P ops Q (o :: rest) a w := by
  obtain ⟨i, hi, hz, h2, h3⟩ := info_parts hinfo
  refine wpList_append_own _ hgd s x t ho base e i z size bytes ht hi hz h2 h3 hzs hsz v n xs hs hown ⟨g, 0, none⟩ m c news hx hl (fun j u hu => ?_) h1 h63 hbytes hbase ?_
  · rw [show (⟨g, 0, none⟩ : Addr).add j = ⟨g, j, none⟩ by unfold Addr.add; split <;> simp_all]
    exact hr j u hu
  · intro v' w' ho' hg' hnil
    rcases ownsRow_forms ho' with ⟨rfl, _⟩ | ⟨g', c', rfl⟩
    · exact absurd (hnil.1 rfl).1 hv
    · exact h g' c' w' ho' hg'

set_option maxHeartbeats 1000000 in
theorem l01Dec_nonneg (n : Nat) (w : World) (hn : n ≤ 9223372036854775807) :
    Calls Tryd.prog 63 #[.int .i64 n] w fun e w' => e = .returned (.string (decS n)) ∧ Below w.heap.size w w' := by
  have Hn := Lib.hid hn; clear hn
  go_enter Tryd.func63, Tryd.ntmps63
  go_wp2_with fail
  go_loopw [3, 4] (fun v i wr => ∃ (k : Nat) (acc : List UInt8) (g c : Nat), i = .int .i64 k ∧ v = .slice (some ⟨g, 0, none⟩) acc.length c ∧ wr.ownsRow w.heap.size 5 1 v acc.length (acc.map byV) ∧
      ddL n [] = ddL k acc ∧ Hid (k * 10 ^ acc.length ≤ 9223372036854775808) ∧ Hid (k ≤ n) ∧ Below w.heap.size w wr) (fun _ i _ => (intOf i).toNat)
  case atStart => exact ⟨n, [], w.heap.size, 0, rfl, rfl, World.ownsRow_made w #[] 0 (Nat.le_refl _) (by simp [maxLen]) rfl, rfl, Lib.hid (by have := Hn.out; simp; omega), Lib.hid (Nat.le_refl _), (Below.refl _ _).alloc (Nat.le_refl _) _⟩
  case round =>
    obtain ⟨k, acc, g, c, rfl, rfl, hown, hdd, hp, hkn, hbl⟩ := hrel
    have Hdd := Lib.hid hdd; clear hdd
    by_cases hlt : 0 < k
    · have hne : ((k : Int) != 0) = true := by rw [bne_iff_ne]; omega
      have hL : acc.length ≤ 18 := len19 k acc.length hlt hp.out
      have hd := digB' k
      have Hst := Lib.hid (ddL_step k acc hlt)
      have hk8 : k ≤ 9223372036854775807 := by have := hkn.out; have := Hn.out; omega
      generalize UInt8.ofNat (48 + k % 10) = d at *
      have hnew := World.ownsRow_lit (base := w.heap.size) (e := 5) (size := 1) wr #[.int .u8 (d.toNat : Int)] 1 hbl.size (by simp [maxLen]) rfl
      have hcells := (hown.alloc (.cells #[.int .u8 (d.toNat : Int)] 5)).cells (g := g) rfl
      have hcells' : ∀ j u, (acc.map byV)[j]? = some u → (wr.alloc (.cells #[.int .u8 (d.toNat : Int)] 5)).cell? ⟨g, j, none⟩ = some u := fun j u hu => by
        have := hcells j u hu
        rwa [show (⟨g, 0, none⟩ : Addr).add j = ⟨g, j, none⟩ by unfold Addr.add; split <;> simp_all] at this
      have Hc := Lib.hid hcells'; clear hcells hcells'
      go_wp2_with (at_builtin; refine wpList_app_own 22 5 _ 1 1 Tryd.underlying22 infoB' rfl (by omega) _ _ rfl rfl w.heap.size (.slice (some ⟨wr.heap.size, 0, none⟩) 1 1) 1 _ rfl hnew (by simp) g acc.length c (acc.map byV) rfl Hc.out (by simp) (by simp [byV, Value.oneCell']) (by simp [maxLen]; omega) (by omega) (by simp; have := hbl.size; omega) ?_; intro g' c' w1 hown1 hg1)
      have hb1 : Below w.heap.size w w1 := (hbl.alloc hbl.size _).grown hg1 (by simp; have := hbl.size; omega) (fun x hx => by injection hx with hx; rw [← hx]; exact hbl.size)
      clear Hc hnew
      go_wp2_with fail
      go_roundw
      case rel => exact ⟨k / 10, d :: acc, g', c', by go_num, by simp [Nat.add_comm], by simpa [byV, Nat.add_comm] using hown1, by rw [Hdd.out, Hst.out], Lib.hid (pow_step _ _ _ hp.out), Lib.hid (by have := hkn.out; omega), hb1⟩
      case measure => simp [intOf]; omega
    · have hk0 : k = 0 := by omega
      have hz : ((k : Int) != 0) = false := by rw [hk0]; rfl
      by_cases hn0 : n = 0
      · have hacc : acc = [] := by
          have := Hdd.out
          rw [hk0, hn0] at this
          simpa [ddL] using this.symm
        have hl : ((acc.length : Int) == 0) = true := by rw [hacc]; rfl
        have he := Lib.hid (show decS (n : Int) = ⟨#[48]⟩ by unfold decS; rw [Lib.itoa_nonneg, hn0, Lib.decDigits_one (by omega)]; rfl)
        clear hn0 hacc
        go_wp2_with fail
        go_ret
        rw [he.out]; exact ⟨rfl, hbl⟩
      · have hacc : Lib.decDigits n = acc := by
          have := Hdd.out
          rw [hk0] at this
          simpa [ddL, hn0] using this
        have hl : ((acc.length : Int) == 0) = false := by
          have := decDigits_ne n
          rw [hacc] at this
          rw [beq_eq_false_iff_ne]; omega
        have hpos : ¬ (n : Int) < 0 := by omega
        have he := Lib.hid (show decS (n : Int) = ⟨acc.toArray⟩ by unfold decS; rw [Lib.itoa_nonneg, hacc])
        have hconv := run_conv_own (P := Tryd.prog) 22 9 5 Tryd.underlying22 Tryd.underlying5 Tryd.underlying9 _ _ _ _ hown
        clear hn0 hacc
        go_wp2_with fail
        go_ret
        rw [he.out]; exact ⟨rfl, hbl⟩
end Go.Proofs.YtnhngccfbnnpoaaDoor
/- l01Dec of every number (the negative ones too). -/
namespace Go.Proofs.YtnhngccfbnnpoaaDoor
open Go.RowKit Go.Joins

theorem decS_neg (n : Nat) (hn : 0 < n) : decS (-(n : Int)) = ⟨#[45]⟩ ++ ⟨(Lib.decDigits n).toArray⟩ := by
  unfold decS Lib.itoa
  rw [if_pos (by omega)]
  refine ba_inj ?_
  rw [ByteArray.toList_eq, ByteArray.toList_eq]
  simp
theorem nDig19 (u : Nat) (h : u ≤ 9223372036854775808) : Lib.nDigits u ≤ 19 := by
  have key : ∀ (k u : Nat), u < 10 ^ (k + 1) → Lib.nDigits u ≤ k + 1 := by
    intro k
    induction k with
    | zero => intro u hu; rw [Lib.nDigits_small (by simpa using hu)]; omega
    | succ k ih =>
      intro u hu
      by_cases h10 : u < 10
      · rw [Lib.nDigits_small h10]; omega
      · rw [Lib.nDigits_big h10]
        have := ih (u / 10) (by rw [Nat.pow_succ] at hu; omega)
        omega
  refine key 18 u ?_
  have : (10 : Nat) ^ (18 + 1) = 10000000000000000000 := by decide
  omega
theorem tdiv_neg10 (k : Nat) : Int.tdiv (-(k : Int)) 10 = -((k / 10 : Nat) : Int) := by
  rw [Int.neg_tdiv, Int.tdiv_eq_ediv_of_nonneg (by omega)]; omega
theorem tmod_neg10 (k : Nat) : Int.tmod (-(k : Int)) 10 = -((k % 10 : Nat) : Int) := by
  rw [Int.neg_tmod, Int.tmod_eq_emod_of_nonneg (by omega)]; omega

set_option maxRecDepth 100000 in
set_option maxHeartbeats 1600000 in
theorem l01Dec_neg (n : Nat) (w : World) (hn0 : 0 < n) (hn : n ≤ 9223372036854775808) :
    Calls Tryd.prog 63 #[.int .i64 (-(n : Int))] w fun e w' => e = .returned (.string (decS (-(n : Int)))) ∧ Below w.heap.size w w' := by
  have Hn := Lib.hid hn; clear hn
  have Hn0 := Lib.hid hn0; clear hn0
  obtain ⟨N, hN⟩ : ∃ N : Int, -(n : Int) = N := ⟨_, rfl⟩
  rw [hN]
  have HN := Lib.hid hN
  have hneg : N < 0 := by have := Hn0.out; omega
  clear hN
  go_enter Tryd.func63, Tryd.ntmps63
  go_wp2_with fail
  go_loopw [3, 4] (fun v i wr => ∃ (k : Nat) (acc : List UInt8) (g c : Nat), i = .int .i64 (-(k : Int)) ∧ v = .slice (some ⟨g, 0, none⟩) acc.length c ∧ wr.ownsRow w.heap.size 5 1 v acc.length (acc.map byV) ∧
      ddL n [] = ddL k acc ∧ Hid (k * 10 ^ acc.length ≤ 9223372036854775808) ∧ Hid (k ≤ n) ∧ Below w.heap.size w wr) (fun _ i _ => (intOf i).natAbs)
  case atStart => exact ⟨n, [], w.heap.size, 0, by rw [HN.out], rfl, World.ownsRow_made w #[] 0 (Nat.le_refl _) (by simp [maxLen]) rfl, rfl, Lib.hid (by have := Hn.out; simp; omega), Lib.hid (Nat.le_refl _), (Below.refl _ _).alloc (Nat.le_refl _) _⟩
  case round =>
    obtain ⟨k, acc, g, c, rfl, rfl, hown, hdd, hp, hkn, hbl⟩ := hrel
    have Hdd := Lib.hid hdd; clear hdd
    by_cases hlt : 0 < k
    · have hL : acc.length ≤ 18 := len19 k acc.length hlt hp.out
      have hd := digB' k
      have Hst := Lib.hid (ddL_step k acc hlt)
      have hk8 : k ≤ 9223372036854775808 := by have := hkn.out; have := Hn.out; omega
      generalize UInt8.ofNat (48 + k % 10) = d at *
      have hnew := World.ownsRow_lit (base := w.heap.size) (e := 5) (size := 1) wr #[.int .u8 (d.toNat : Int)] 1 hbl.size (by simp [maxLen]) rfl
      have hcells := (hown.alloc (.cells #[.int .u8 (d.toNat : Int)] 5)).cells (g := g) rfl
      have hcells' : ∀ j u, (acc.map byV)[j]? = some u → (wr.alloc (.cells #[.int .u8 (d.toNat : Int)] 5)).cell? ⟨g, j, none⟩ = some u := fun j u hu => by
        have := hcells j u hu
        rwa [show (⟨g, 0, none⟩ : Addr).add j = ⟨g, j, none⟩ by unfold Addr.add; split <;> simp_all] at this
      have Hc := Lib.hid hcells'; clear hcells hcells'
      have hq0 := tdiv_neg10 k
      have hr0 := tmod_neg10 k
      obtain ⟨K, hK⟩ : ∃ K : Int, -(k : Int) = K := ⟨_, rfl⟩
      have HK := Lib.hid hK
      rw [hK] at hq0 hr0
      have hne : (K != 0) = true := by rw [bne_iff_ne]; omega
      have hwq : IntKind.i64.wrap (-((k / 10 : Nat) : Int)) = -((k / 10 : Nat) : Int) := IntWalk.i64_in _ (by omega)
      have hwr : IntKind.i64.wrap (-((k % 10 : Nat) : Int)) = -((k % 10 : Nat) : Int) := IntWalk.i64_in _ (by omega)
      obtain ⟨q, hq⟩ : ∃ q : Int, -((k / 10 : Nat) : Int) = q := ⟨_, rfl⟩
      obtain ⟨r, hr⟩ : ∃ r : Int, -((k % 10 : Nat) : Int) = r := ⟨_, rfl⟩
      rw [hq] at hq0 hwq
      rw [hr] at hr0 hwr
      have Hq := Lib.hid hq
      have hr9 : -9 ≤ r ∧ r ≤ 0 := by omega
      obtain ⟨hr9, hr99⟩ := hr9
      rw [hK]
      rcases Int.lt_or_le r 0 with hrn | hrn
      · have hwd : IntKind.i64.wrap (-r) = -r := IntWalk.i64_in _ (by omega)
        have hd' : IntKind.u8.wrap (48 + -r) = (d.toNat : Int) := by rw [← hd, ← hr]; congr 1; omega
        clear hd hK hq hr
        go_wp2_with (at_builtin; refine wpList_app_own 22 5 _ 1 1 Tryd.underlying22 infoB' rfl (by omega) _ _ rfl rfl w.heap.size (.slice (some ⟨wr.heap.size, 0, none⟩) 1 1) 1 _ rfl hnew (by simp) g acc.length c (acc.map byV) rfl Hc.out (by simp) (by simp [byV, Value.oneCell']) (by simp [maxLen]; omega) (by omega) (by simp; have := hbl.size; omega) ?_; intro g' c' w1 hown1 hg1)
        have hb1 : Below w.heap.size w w1 := (hbl.alloc hbl.size _).grown hg1 (by simp; have := hbl.size; omega) (fun x hx => by injection hx with hx; rw [← hx]; exact hbl.size)
        clear Hc hnew
        go_wp2_with fail
        go_roundw
        case rel => exact ⟨k / 10, d :: acc, g', c', by rw [Hq.out], by simp [Nat.add_comm], by simpa [byV, Nat.add_comm] using hown1, by rw [Hdd.out, Hst.out], Lib.hid (pow_step _ _ _ hp.out), Lib.hid (by have := hkn.out; omega), hb1⟩
        case measure => simp [intOf]; have := HK.out; have := Hq.out; omega
      · have hr0' : r = 0 := by omega
        have hd' : IntKind.u8.wrap (48 + r) = (d.toNat : Int) := by rw [← hd]; congr 1; omega
        clear hd hK hq hr hr0'
        go_wp2_with (at_builtin; refine wpList_app_own 22 5 _ 1 1 Tryd.underlying22 infoB' rfl (by omega) _ _ rfl rfl w.heap.size (.slice (some ⟨wr.heap.size, 0, none⟩) 1 1) 1 _ rfl hnew (by simp) g acc.length c (acc.map byV) rfl Hc.out (by simp) (by simp [byV, Value.oneCell']) (by simp [maxLen]; omega) (by omega) (by simp; have := hbl.size; omega) ?_; intro g' c' w1 hown1 hg1)
        have hb1 : Below w.heap.size w w1 := (hbl.alloc hbl.size _).grown hg1 (by simp; have := hbl.size; omega) (fun x hx => by injection hx with hx; rw [← hx]; exact hbl.size)
        clear Hc hnew
        go_wp2_with fail
        go_roundw
        case rel => exact ⟨k / 10, d :: acc, g', c', by rw [Hq.out], by simp [Nat.add_comm], by simpa [byV, Nat.add_comm] using hown1, by rw [Hdd.out, Hst.out], Lib.hid (pow_step _ _ _ hp.out), Lib.hid (by have := hkn.out; omega), hb1⟩
        case measure => simp [intOf]; have := HK.out; have := Hq.out; omega
    · have hk0 : k = 0 := by omega
      subst hk0
      have hacc : Lib.decDigits n = acc := by
        have := Hdd.out
        simpa [ddL, show n ≠ 0 by have := Hn0.out; omega] using this
      have hl : ((acc.length : Int) == 0) = false := by
        have := decDigits_ne n
        rw [hacc] at this
        rw [beq_eq_false_iff_ne]; omega
      have he := Lib.hid (show decS N = ⟨#[45]⟩ ++ ⟨acc.toArray⟩ by rw [← HN.out, decS_neg n Hn0.out, hacc])
      have hconv := run_conv_own (P := Tryd.prog) 22 9 5 Tryd.underlying22 Tryd.underlying5 Tryd.underlying9 _ _ _ _ hown
      have hlen : acc.length ≤ 19 := by
        have h1 := congrArg List.length hacc
        rw [Lib.decDigits_length] at h1
        have := Hn.out
        have h2 : Lib.nDigits n ≤ 19 := nDig19 n (by omega)
        omega
      clear hacc
      go_wp2_with fail
      go_ret
      rw [he.out]; exact ⟨rfl, hbl⟩
theorem l01Dec_any (n : Int) (w : World) (h0 : -9223372036854775808 ≤ n) (h1 : n ≤ 9223372036854775807) :
    Calls Tryd.prog 63 #[.int .i64 n] w fun e w' => e = .returned (.string (decS n)) ∧ Below w.heap.size w w' := by
  rcases Int.lt_or_le n 0 with h | h
  · obtain ⟨m, rfl⟩ : ∃ m : Nat, n = -(m : Int) := ⟨n.natAbs, by omega⟩
    exact l01Dec_neg m w (by omega) (by omega)
  · obtain ⟨m, rfl⟩ : ∃ m : Nat, n = m := ⟨n.toNat, by omega⟩
    exact l01Dec_nonneg m w (by omega)
end Go.Proofs.YtnhngccfbnnpoaaDoor
/- NoteSum: the walks of both sides. -/
namespace Go.Proofs.YtnhngccfbnnpoaaDoor
open Go.RowKit

theorem take_snoc (s : ByteArray) (k : Nat) (h : k < s.size) : s.data.toList.take (k + 1) = s.data.toList.take k ++ [s[k]] := by
  rw [List.take_succ_eq_append_getElem (by simpa using h)]; rfl

/-- the checksum's fold -/
def sumF (s0 : Int) (l : List UInt8) : Int := l.foldl (fun s c => (31 * s + (c.toNat : Int)) % 65521) s0
theorem sumF_snoc (s0 : Int) (l : List UInt8) (c : UInt8) : sumF s0 (l ++ [c]) = (31 * sumF s0 l + (c.toNat : Int)) % 65521 := by simp [sumF]
theorem sumF_bd (s0 : Int) (h0 : 0 ≤ s0) (h1 : s0 < 65521) (l : List UInt8) : 0 ≤ sumF s0 l ∧ sumF s0 l < 65521 := by
  unfold sumF
  induction l generalizing s0 with
  | nil => exact ⟨h0, h1⟩
  | cons c l ih => exact ih _ (by simp only []; omega) (by simp only []; omega)

def noteSum (before number : Int) (l : List UInt8) : Int :=
  if inB before 0 65520 && inB number 0 1000000 then sumF ((before + 7 * number) % 65521) l else 0

end Go.Proofs.YtnhngccfbnnpoaaDoor
/- Journals, part 1: what a note and a line is; isNote, l26Note, l26Head, l26Line, next. -/
namespace Go.Proofs.YtnhngccfbnnpoaaDoor
open Go.RowKit Go.Joins

/-- every byte can be printed -/
def okByte (c : UInt8) : Bool := decide (32 ≤ (c.toNat : Int)) && decide ((c.toNat : Int) ≤ 126)
def noteOk (l : List UInt8) : Bool := l.all okByte && decide (l.length ≤ 60)

theorem ba_mem (s : ByteArray) (k : Nat) (h : k < s.size) : s[k] ∈ s.data.toList := List.getElem_mem (l := s.data.toList) (n := k) (by simpa using h)
theorem noteOk_no (s : ByteArray) (c : UInt8) (hc : c ∈ s.data.toList) (h : okByte c = false) : noteOk s.data.toList = false := by
  unfold noteOk
  rw [Bool.and_eq_false_iff]; left
  rw [List.all_eq_false]
  exact ⟨c, hc, by simp [h]⟩
theorem noteOk_end (s : ByteArray) (k : Nat) (hk : s.size ≤ k) (h : (s.data.toList.take k).all okByte = true) : noteOk s.data.toList = decide ((s.size : Int) ≤ 60) := by
  unfold noteOk
  rw [List.take_of_length_le (by simpa using hk)] at h
  rw [h, Bool.true_and, show s.data.toList.length = s.size from rfl, Bool.eq_iff_iff]
  simp; omega
theorem all_snoc (s : ByteArray) (k : Nat) (hlt : k < s.size) (h : (s.data.toList.take k).all okByte = true) (hc : okByte s[k] = true) : (s.data.toList.take (k + 1)).all okByte = true := by
  rw [take_snoc s k hlt, List.all_append, h]; simpa using hc

end Go.Proofs.YtnhngccfbnnpoaaDoor
/- Journals, part 2: lines. -/
namespace Go.Proofs.YtnhngccfbnnpoaaDoor
open Go.RowKit Go.Joins

theorem nDig_le (u : Nat) (h : u ≤ 9223372036854775808) : Lib.nDigits u ≤ 19 := by
  have key : ∀ (k u : Nat), u < 10 ^ (k + 1) → Lib.nDigits u ≤ k + 1 := by
    intro k
    induction k with
    | zero => intro u hu; rw [Lib.nDigits_small (by simpa using hu)]; omega
    | succ k ih =>
      intro u hu
      by_cases h10 : u < 10
      · rw [Lib.nDigits_small h10]; omega
      · rw [Lib.nDigits_big h10]
        have := ih (u / 10) (by rw [Nat.pow_succ] at hu; omega)
        omega
  refine key 18 u ?_
  have : (10 : Nat) ^ (18 + 1) = 10000000000000000000 := by decide
  omega
theorem decS_size (n : Int) (h0 : -9223372036854775808 ≤ n) (h1 : n ≤ 9223372036854775807) : (decS n).size ≤ 20 := by
  show (Lib.itoa n).toArray.size ≤ 20
  unfold Lib.itoa
  split
  · have := nDig_le n.natAbs (by omega)
    simp only [List.size_toArray, List.length_cons, Lib.decDigits_length]; omega
  · have := nDig_le n.toNat (by omega)
    simp only [List.size_toArray, Lib.decDigits_length]; omega

/-- the beginning of a line, and a line -/
def headS (number sum : Int) : ByteArray := decS number ++ ⟨#[32]⟩ ++ decS sum ++ ⟨#[32]⟩
def lineS (number sum : Int) (note : ByteArray) : ByteArray := headS number sum ++ note ++ ⟨#[10]⟩
theorem headS_size (number sum : Int) (h0 : 0 ≤ number) (h1 : number ≤ 1000001) (h2 : 0 ≤ sum) (h3 : sum ≤ 1000001) : (headS number sum).size ≤ 42 := by
  have := decS_size number (by omega) (by omega)
  have := decS_size sum (by omega) (by omega)
  unfold headS
  simp only [ByteArray.size_append]
  show _ + 1 + _ + 1 ≤ _
  omega
theorem lineS_size (number sum : Int) (note : ByteArray) (h0 : 0 ≤ number) (h1 : number ≤ 1000001) (h2 : 0 ≤ sum) (h3 : sum ≤ 1000001) : (lineS number sum note).size ≤ note.size + 43 := by
  have := headS_size number sum h0 h1 h2 h3
  unfold lineS
  simp only [ByteArray.size_append]
  show _ + _ + 1 ≤ _
  omega

theorem noteSum_bd (before number : Int) (l : List UInt8) : 0 ≤ noteSum before number l ∧ noteSum before number l < 65521 := by
  unfold noteSum
  split
  · exact sumF_bd _ (by omega) (by omega) l
  · omega

end Go.Proofs.YtnhngccfbnnpoaaDoor
/- Journals, part 3: cut. -/
namespace Go.Proofs.YtnhngccfbnnpoaaDoor
open Go.RowKit Go.Joins

/-- the first place of a byte in a text; its size if there is none -/
def fnd (c : UInt8) (s : ByteArray) : Nat := s.data.toList.findIdx (· == c)
theorem fnd_le (c : UInt8) (s : ByteArray) : fnd c s ≤ s.size := by
  have : fnd c s ≤ s.data.toList.length := List.findIdx_le_length
  simpa using this
theorem fnd_eq (c : UInt8) (s : ByteArray) (k : Nat) (hk : k ≤ fnd c s) (hlt : k < s.size) (h : s[k] = c) : fnd c s = k := by
  refine Nat.le_antisymm (Nat.le_of_not_lt fun hl => ?_) hk
  have := List.not_of_lt_findIdx (p := (· == c)) (xs := s.data.toList) (i := k) hl
  have h' : s.data.toList[k]'(by simpa using hlt) = c := by rw [← h]; rfl
  simp [h'] at this
theorem fnd_ne (c : UInt8) (s : ByteArray) (k : Nat) (hk : k ≤ fnd c s) (hlt : k < s.size) (h : s[k] ≠ c) : k + 1 ≤ fnd c s := by
  rcases Nat.lt_or_ge k (fnd c s) with hl | hg
  · exact hl
  · exfalso
    have he : fnd c s = k := Nat.le_antisymm hg hk
    have := List.findIdx_getElem (p := (· == c)) (xs := s.data.toList) (w := by show fnd c s < s.data.toList.length; rw [he]; simpa using hlt)
    have hh : s.data.toList[fnd c s]'(by rw [he]; simpa using hlt) = c := by simpa [fnd] using this
    simp only [he] at hh
    exact h (by rw [← hh]; rfl)
theorem ext_all (s : ByteArray) : s.extract 0 s.size = s := by
  apply ByteArray.ext; simp
theorem ext_none (s : ByteArray) : s.extract (s.size + 1) s.size = ⟨#[]⟩ := by
  apply ByteArray.ext; simp
theorem one_byte (s : ByteArray) (k : Nat) (hlt : k < s.size) : s.extract k (k + 1) = ⟨#[s[k]]⟩ := by
  apply ByteArray.ext
  have hl : k < s.data.size := hlt
  apply Array.ext
  · simp; omega
  · intro i h1 h2
    have hi : i = 0 := by simp at h2; omega
    subst hi
    simp; rfl

set_option maxRecDepth 100000 in
set_option maxHeartbeats 1000000 in
theorem cut_any (s : ByteArray) (c : UInt8) (w : World) (hs : s.size ≤ 1073741824) :
    Calls Tryd.prog 86 #[.string s, .string ⟨#[c]⟩] w fun e w' => e = .returned (.tuple #[.string (s.extract 0 (fnd c s)), .string (s.extract (fnd c s + 1) s.size), .bool (decide (fnd c s < s.size))]) ∧ ∃ n, w' = w.drewN n := by
  have h1 : (⟨#[c]⟩ : ByteArray).size = 1 := rfl
  go_enter Tryd.func86, Tryd.ntmps86
  go_wp2_with fail
  go_loop [7] (fun i => ∃ k : Nat, k ≤ fnd c s ∧ i = .int .i64 k) (fun i => s.size - (intOf i).toNat)
  case atStart => exact ⟨0, Nat.zero_le _, rfl⟩
  case round =>
    obtain ⟨k, hk, rfl⟩ := hrel
    have hfl := fnd_le c s
    by_cases hlt : k < s.size
    · have hsl := one_byte s k hlt
      by_cases he : s[k] = c
      · have hf := Lib.hid (fnd_eq c s k hk hlt he)
        rw [he] at hsl
        clear he
        go_wp2_with fail
        go_quiet (fail)
        go_wp2_with fail
        go_ret3
        rw [hf.out]; exact ⟨by simp [hlt], _, rfl⟩
      · have hf := Lib.hid (fnd_ne c s k hk hlt he)
        have hb : ((⟨#[s[k]]⟩ : ByteArray).toList == [c]) = false := by
          rw [beq_eq_false_iff_ne]; exact fun h => he (by rw [ByteArray.toList_eq] at h; simpa using h)
        generalize (⟨#[s[k]]⟩ : ByteArray) = o at *
        go_wp2_with fail
        go_round
        case rel => exact ⟨k + 1, hf.out, by go_num⟩
        case measure => simp [intOf]; omega
    · have hf := Lib.hid (show fnd c s = s.size by omega)
      have he1 := ext_all s
      have he2 := ext_none s
      go_wp2_with fail
      go_ret3
      rw [hf.out]; exact ⟨by rw [he1, he2]; simp, 0, rfl⟩
end Go.Proofs.YtnhngccfbnnpoaaDoor
/- Numbers read from texts: the plain reading; ReadDecimal (program). -/
namespace Go.Proofs.YtnhngccfbnnpoaaDoor
open Go.RowKit Go.Joins

def isDg (c : UInt8) : Bool := decide (48 ≤ c.toNat) && decide (c.toNat ≤ 57)
def numVN (l : List UInt8) : Nat := l.foldl (fun n c => 10 * n + (c.toNat - 48)) 0
theorem numVN_snoc (l : List UInt8) (c : UInt8) : numVN (l ++ [c]) = 10 * numVN l + (c.toNat - 48) := by simp [numVN]
theorem numVN_lt' : ∀ (l : List UInt8), (∀ c ∈ l, isDg c = true) → ∀ n : Nat, l.foldl (fun n c => 10 * n + (c.toNat - 48)) n < (n + 1) * 10 ^ l.length := by
  intro l
  induction l with
  | nil => intro _ n; simp
  | cons c l ih =>
    intro h n
    have h1 := ih (fun x hx => h x (List.mem_cons_of_mem _ hx)) (10 * n + (c.toNat - 48))
    have h2 := h c List.mem_cons_self
    unfold isDg at h2
    simp only [Bool.and_eq_true, decide_eq_true_eq] at h2
    rw [List.foldl_cons, List.length_cons, Nat.pow_succ]
    have h3 : (10 * n + (c.toNat - 48) + 1) * 10 ^ l.length ≤ (10 * (n + 1)) * 10 ^ l.length := Nat.mul_le_mul_right _ (by omega)
    have h4 : (10 * (n + 1)) * 10 ^ l.length = (n + 1) * (10 ^ l.length * 10) := by
      rw [Nat.mul_comm 10 (n + 1), Nat.mul_assoc, Nat.mul_comm 10]
    omega
theorem numVN_lt (l : List UInt8) (h : ∀ c ∈ l, isDg c = true) : numVN l < 10 ^ l.length := by
  have := numVN_lt' l h 0
  unfold numVN
  omega
/-- what stands behind a sign -/
def bodyN (s : ByteArray) : ByteArray := if s.data.toList.head? = some 45 then s.extract 1 s.size else s
def valN (s : ByteArray) : Int := if (bodyN s).size < s.size then -(numVN (bodyN s).data.toList : Int) else numVN (bodyN s).data.toList
def readN (s : ByteArray) : Option Int :=
  if (bodyN s).size = 0 ∨ 18 < (bodyN s).size then none
  else if (bodyN s).data.toList.all isDg = true then (if decS (valN s) = s then some (valN s) else none) else none
theorem isDigitN_any (c : UInt8) (w : World) : Calls Tryd.prog 84 #[.int .u8 (c.toNat : Int)] w fun e w' => e = .returned (.bool (isDg c)) ∧ w = w' := by
  unfold isDg
  by_cases h1 : 48 ≤ c.toNat
  · have h1' : (48 : Int) ≤ (c.toNat : Int) := by omega
    by_cases h2 : c.toNat ≤ 57
    · have h2' : (c.toNat : Int) ≤ 57 := by omega
      go_enter Tryd.func84, Tryd.ntmps84
      go_wp2_with fail
      go_ret
      exact ⟨by simp [h1, h2], rfl⟩
    · have h2' : ¬ (c.toNat : Int) ≤ 57 := by omega
      go_enter Tryd.func84, Tryd.ntmps84
      go_wp2_with fail
      go_ret
      exact ⟨by simp, rfl⟩
  · have h1' : ¬ (48 : Int) ≤ (c.toNat : Int) := by omega
    go_enter Tryd.func84, Tryd.ntmps84
    go_wp2_with fail
    go_ret
    exact ⟨by simp, rfl⟩
theorem l01DigitN_any (c : UInt8) (w : World) : Calls Tryd.prog 77 #[.int .u8 (c.toNat : Int)] w fun e w' => e = .returned (.bool (isDg c)) ∧ w = w' := by
  unfold isDg
  by_cases h1 : 48 ≤ c.toNat
  · have h1' : (48 : Int) ≤ (c.toNat : Int) := by omega
    by_cases h2 : c.toNat ≤ 57
    · have h2' : (c.toNat : Int) ≤ 57 := by omega
      go_enter Tryd.func77, Tryd.ntmps77
      go_wp2_with fail
      go_ret
      exact ⟨by simp [h1, h2], rfl⟩
    · have h2' : ¬ (c.toNat : Int) ≤ 57 := by omega
      go_enter Tryd.func77, Tryd.ntmps77
      go_wp2_with fail
      go_ret
      exact ⟨by simp, rfl⟩
  · have h1' : ¬ (48 : Int) ≤ (c.toNat : Int) := by omega
    go_enter Tryd.func77, Tryd.ntmps77
    go_wp2_with fail
    go_ret
    exact ⟨by simp, rfl⟩
end Go.Proofs.YtnhngccfbnnpoaaDoor
/- Numbers read from texts, part 2: ReadDecimal and l01Number (under way). -/
namespace Go.Proofs.YtnhngccfbnnpoaaDoor
open Go.RowKit Go.Joins

def RetN1 (w : World) (s : ByteArray) (e : Ending) (w' : World) : Prop := e = .returned (.tuple #[.int .i64 ((readN s).getD 0), .bool (readN s).isSome]) ∧ Below w.heap.size w w'
theorem head_sizeN {s : ByteArray} (h : s.data.toList.head? = some 45) : ∃ h0 : 0 < s.size, s[0] = 45 := by
  have h0 : 0 < s.size := by
    rcases Nat.eq_zero_or_pos s.size with h1 | h1
    · have : s.data.toList = [] := List.eq_nil_of_length_eq_zero (by simpa using h1)
      rw [this] at h; simp at h
    · exact h1
  refine ⟨h0, ?_⟩
  have h2 : s.data.toList.head? = some s[0] := by
    rw [List.head?_eq_getElem?, List.getElem?_eq_getElem (by simpa using h0)]
    rfl
  rw [h2] at h
  exact Option.some.inj h
theorem head_not {s : ByteArray} (h : ¬ s.data.toList.head? = some 45) (h0 : 0 < s.size) : s[0] ≠ 45 := by
  intro e
  refine h ?_
  rw [List.head?_eq_getElem?, List.getElem?_eq_getElem (by simpa using h0)]
  rw [← e]; rfl
theorem take_at (s : ByteArray) (k : Nat) (hk : k < s.size) : numVN (s.data.toList.take (k + 1)) = 10 * numVN (s.data.toList.take k) + (s[k].toNat - 48) := by
  rw [List.take_succ_eq_append_getElem (by simpa using hk), numVN_snoc]
  rfl
theorem readN_none {s : ByteArray} (h : (bodyN s).size = 0 ∨ 18 < (bodyN s).size) : readN s = none := by unfold readN; rw [if_pos h]
theorem readN_bad {s : ByteArray} (k : Nat) (hk : k < (bodyN s).size) (h : isDg (bodyN s)[k] = false) : readN s = none := by
  unfold readN
  split
  · rfl
  · rw [if_neg]
    intro ha
    have := List.all_eq_true.1 ha (bodyN s)[k] (List.getElem_mem (l := (bodyN s).data.toList) (n := k) (by simpa using hk))
    rw [h] at this; cases this
theorem readN_val {s : ByteArray} (h1 : ¬((bodyN s).size = 0 ∨ 18 < (bodyN s).size)) (h2 : ∀ c ∈ (bodyN s).data.toList, isDg c = true) : readN s = if decS (valN s) = s then some (valN s) else none := by
  unfold readN
  rw [if_neg h1, if_pos (List.all_eq_true.2 h2)]
theorem valN_bd {s : ByteArray} (h1 : ¬((bodyN s).size = 0 ∨ 18 < (bodyN s).size)) (h2 : ∀ c ∈ (bodyN s).data.toList, isDg c = true) : numVN (bodyN s).data.toList < 1000000000000000000 := by
  have h := numVN_lt _ h2
  have h3 : (10 : Nat) ^ (bodyN s).data.toList.length ≤ 10 ^ 18 := Nat.pow_le_pow_right (by omega) (by
    have : (bodyN s).data.toList.length = (bodyN s).size := by simp
    omega)
  have h4 : (10 : Nat) ^ 18 = 1000000000000000000 := by decide
  omega
end Go.Proofs.YtnhngccfbnnpoaaDoor
/- Numbers read from texts, part 5: what a text that is a number cannot hold. -/
namespace Go.Proofs.YtnhngccfbnnpoaaDoor

theorem readN_dec {r : ByteArray} {a : Int} (h : readN r = some a) : decS a = r := by
  unfold readN at h
  split at h
  · cases h
  · split at h
    · split at h
      · rename_i he
        rw [← Option.some.inj h]; exact he
      · cases h
    · cases h
theorem readN_none_of {r : ByteArray} (k : Nat) (hk : k < r.size) (h1 : isDg r[k] = false) (h2 : r[k] ≠ 45) : readN r = none := by
  by_cases hh : r.data.toList.head? = some 45
  · obtain ⟨h0, he⟩ := head_sizeN hh
    have hT : bodyN r = r.extract 1 r.size := by unfold bodyN; rw [if_pos hh]
    have hk0 : k ≠ 0 := by
      intro e; subst e; exact h2 he
    have hz : (bodyN r).size = r.size - 1 := by rw [hT, ByteArray.size_extract]; omega
    refine readN_bad (k - 1) (by omega) ?_
    have : (bodyN r)[k - 1]'(by omega) = r[k] := by
      simp only [hT]
      rw [ByteArray.getElem_extract]
      simp only [show 1 + (k - 1) = k by omega]
    rw [this]; exact h1
  · have hT : bodyN r = r := by unfold bodyN; rw [if_neg hh]
    refine readN_bad k (by rw [hT]; exact hk) ?_
    simp only [hT]; exact h1
theorem fnd_at (c : UInt8) (s : ByteArray) (h : fnd c s < s.size) : s[fnd c s] = c := by
  have := List.findIdx_getElem (p := (· == c)) (xs := s.data.toList) (w := by show fnd c s < s.data.toList.length; simpa using h)
  have hh : s.data.toList[fnd c s]'(by simpa using h) = c := by simpa [fnd] using this
  exact hh
end Go.Proofs.YtnhngccfbnnpoaaDoor
/- Numbers read from texts, part 6: a decimal form is read back. -/
namespace Go.Proofs.YtnhngccfbnnpoaaDoor

theorem dgt_ok (d : Nat) (h : d < 10) : isDg (UInt8.ofNat (48 + d)) = true ∧ (UInt8.ofNat (48 + d)).toNat - 48 = d ∧ UInt8.ofNat (48 + d) ≠ 45 := by
  have hh : ∀ m : Fin 10, isDg (UInt8.ofNat (48 + m.1)) = true ∧ (UInt8.ofNat (48 + m.1)).toNat - 48 = m.1 ∧ UInt8.ofNat (48 + m.1) ≠ 45 := by decide
  exact hh ⟨d, h⟩
theorem dec_facts (u : Nat) : (∀ c ∈ Lib.decDigits u, isDg c = true ∧ c ≠ 45) ∧ numVN (Lib.decDigits u) = u := by
  induction u using Nat.strongRecOn with
  | _ u ih =>
    by_cases h : u < 10
    · rw [Lib.decDigits, dif_pos h]
      obtain ⟨h1, h2, h3⟩ := dgt_ok u h
      refine ⟨fun c hc => ?_, ?_⟩
      · rw [List.mem_singleton.1 hc]; exact ⟨h1, h3⟩
      · show 10 * 0 + ((UInt8.ofNat (48 + u)).toNat - 48) = u
        omega
    · rw [Lib.decDigits, dif_neg h]
      obtain ⟨h1, h2, h3⟩ := dgt_ok (u % 10) (Nat.mod_lt _ (by omega))
      obtain ⟨k1, k2⟩ := ih (u / 10) (by omega)
      refine ⟨fun c hc => ?_, ?_⟩
      · rcases List.mem_append.1 hc with hc | hc
        · exact k1 c hc
        · rw [List.mem_singleton.1 hc]; exact ⟨h1, h3⟩
      · rw [numVN_snoc, k2, h2]; omega
theorem nDig18 (u : Nat) (h : u < 1000000000000000000) : 1 ≤ Lib.nDigits u ∧ Lib.nDigits u ≤ 18 := by
  refine ⟨Lib.nDigits_pos u, ?_⟩
  by_cases h0 : u < 10
  · rw [Lib.nDigits_small h0]; omega
  · rcases Nat.lt_or_ge 18 (Lib.nDigits u) with hl | hg
    · exfalso
      have key : ∀ (k v : Nat), v < 10 ^ (k + 1) → Lib.nDigits v ≤ k + 1 := by
        intro k
        induction k with
        | zero => intro v hv; rw [Lib.nDigits_small (by simpa using hv)]; omega
        | succ k ih =>
          intro v hv
          by_cases hs : v < 10
          · rw [Lib.nDigits_small hs]; omega
          · rw [Lib.nDigits_big hs]
            have := ih (v / 10) (by rw [Nat.pow_succ] at hv; omega)
            omega
      have := key 17 u h
      omega
    · exact hg
theorem readN_decS (a : Int) (h0 : -1000000000000000000 < a) (h1 : a < 1000000000000000000) : readN (decS a) = some a := by
  by_cases hn : a < 0
  · obtain ⟨u, hu⟩ : ∃ u : Nat, a = -(u : Int) := ⟨(-a).toNat, by omega⟩
    obtain ⟨k1, k2⟩ := dec_facts u
    obtain ⟨d1, d2⟩ := nDig18 u (by omega)
    have hs : decS a = ⟨(45 :: Lib.decDigits u).toArray⟩ := by
      unfold decS Lib.itoa
      rw [if_pos hn, show a.natAbs = u by omega]
    have hb : bodyN (decS a) = ⟨(Lib.decDigits u).toArray⟩ := by
      unfold bodyN
      rw [hs, if_pos (by rfl)]
      apply ByteArray.ext
      rw [ByteArray.data_extract]
      simp [ByteArray.size]
    have hz : (bodyN (decS a)).size = Lib.nDigits u := by rw [hb, ← Lib.decDigits_length]; simp [ByteArray.size]
    have hzz : (decS a).size = Lib.nDigits u + 1 := by rw [hs, ← Lib.decDigits_length]; simp [ByteArray.size]
    have hv : valN (decS a) = a := by
      unfold valN
      rw [if_pos (by omega), hb]
      show -((numVN (Lib.decDigits u) : Nat) : Int) = a
      rw [k2]; exact hu.symm
    rw [readN_val (by omega) (by rw [hb]; exact fun c hc => (k1 c hc).1), hv, if_pos rfl]
  · obtain ⟨u, rfl⟩ : ∃ u : Nat, a = (u : Int) := ⟨a.toNat, by omega⟩
    obtain ⟨k1, k2⟩ := dec_facts u
    obtain ⟨d1, d2⟩ := nDig18 u (by omega)
    have hs : decS (u : Int) = ⟨(Lib.decDigits u).toArray⟩ := by
      unfold decS Lib.itoa
      rw [if_neg hn]; rfl
    have hh : (decS (u : Int)).data.toList.head? ≠ some 45 := by
      rw [hs]
      intro e
      have e2 : (Lib.decDigits u).head? = some 45 := e
      exact (k1 45 (List.mem_of_mem_head? e2)).2 rfl
    have hb : bodyN (decS (u : Int)) = decS (u : Int) := by unfold bodyN; rw [if_neg hh]
    have hz : (decS (u : Int)).size = Lib.nDigits u := by rw [hs, ← Lib.decDigits_length]; simp [ByteArray.size]
    have hv : valN (decS (u : Int)) = u := by
      unfold valN
      rw [hb, if_neg (by omega), hs]
      show ((numVN (Lib.decDigits u) : Nat) : Int) = u
      rw [k2]
    rw [readN_val (by rw [hb]; omega) (by rw [hb, hs]; exact fun c hc => (k1 c hc).1), hv, if_pos rfl]
end Go.Proofs.YtnhngccfbnnpoaaDoor
/- Texts cut at a byte, part 1: plain laws. -/
namespace Go.Proofs.YtnhngccfbnnpoaaDoor

/-- the parts of a text between bytes c -/
def splitB (c : UInt8) (s : ByteArray) : List ByteArray :=
  if h : fnd c s < s.size then s.extract 0 (fnd c s) :: splitB c (s.extract (fnd c s + 1) s.size) else [s]
termination_by s.size
decreasing_by rw [ByteArray.size_extract]; omega
theorem splitB_yes {c : UInt8} {s : ByteArray} (h : fnd c s < s.size) : splitB c s = s.extract 0 (fnd c s) :: splitB c (s.extract (fnd c s + 1) s.size) := by
  rw [splitB, dif_pos h]
theorem splitB_no {c : UInt8} {s : ByteArray} (h : s.size ≤ fnd c s) : splitB c s = [s] := by
  rw [splitB, dif_neg (by omega)]
theorem tail_sizeS (s : ByteArray) (f : Nat) : (s.extract f s.size).size = s.size - f := by rw [ByteArray.size_extract]; omega
theorem tail_cut (s : ByteArray) (f i : Nat) (h : f ≤ i) (hi : i ≤ s.size) : (s.extract f s.size).extract 0 (i - f) = s.extract f i := by
  rw [ByteArray.extract_extract, Nat.add_zero, show f + (i - f) = i by omega, Nat.min_eq_left hi]
theorem tail_tail (s : ByteArray) (f i : Nat) (h : f ≤ i) (hf : f ≤ s.size) : (s.extract f s.size).extract (i - f) (s.size - f) = s.extract i s.size := by
  rw [ByteArray.extract_extract, show f + (i - f) = i by omega, show f + (s.size - f) = s.size by omega, Nat.min_self]
/-- the walk of the reference: a byte c at i, the part begins at f -/
theorem sp_hit {c : UInt8} {s : ByteArray} {f i : Nat} (h : f ≤ i) (hi : i < s.size) (hf : i - f ≤ fnd c (s.extract f s.size)) (hc : s[i] = c) :
    splitB c (s.extract f s.size) = s.extract f i :: splitB c (s.extract (i + 1) s.size) := by
  have hz := tail_sizeS s f
  have he : fnd c (s.extract f s.size) = i - f := by
    refine fnd_eq c _ (i - f) hf (by omega) ?_
    rw [ByteArray.getElem_extract]
    simp only [show f + (i - f) = i by omega]
    exact hc
  rw [splitB_yes (by omega), he, tail_cut s f i h (by omega), hz, show i - f + 1 = i + 1 - f by omega, tail_tail s f (i + 1) (by omega) (by omega)]
theorem sp_miss {c : UInt8} {s : ByteArray} {f i : Nat} (h : f ≤ i) (hi : i < s.size) (hf : i - f ≤ fnd c (s.extract f s.size)) (hc : s[i] ≠ c) :
    i + 1 - f ≤ fnd c (s.extract f s.size) := by
  have hz := tail_sizeS s f
  have he := fnd_ne c (s.extract f s.size) (i - f) hf (by omega) (by
    rw [ByteArray.getElem_extract]
    simp only [show f + (i - f) = i by omega]
    exact hc)
  omega
theorem sp_end {c : UInt8} {s : ByteArray} {f : Nat} (hf : s.size - f ≤ fnd c (s.extract f s.size)) : splitB c (s.extract f s.size) = [s.extract f s.size] :=
  splitB_no (by rw [tail_sizeS]; exact hf)
theorem splitB_ne (c : UInt8) (s : ByteArray) : splitB c s ≠ [] := by
  rw [splitB]; split <;> simp
theorem splitB_len (c : UInt8) : ∀ (n : Nat) (s : ByteArray), s.size ≤ n → (splitB c s).length ≤ s.size + 1 := by
  intro n
  induction n with
  | zero =>
    intro s h
    have := fnd_le c s
    rw [splitB_no (by omega)]; simp
  | succ n ih =>
    intro s h
    rcases Nat.lt_or_ge (fnd c s) s.size with h1 | h1
    · rw [splitB_yes h1, List.length_cons]
      have hz := tail_sizeS s (fnd c s + 1)
      have := ih (s.extract (fnd c s + 1) s.size) (by omega)
      omega
    · rw [splitB_no h1]; simp
/-- the lines of a text that ends with c, none where it does not -/
def linesB (c : UInt8) (s : ByteArray) : Option (List ByteArray) := if (splitB c s).getLast? = some ⟨#[]⟩ then some (splitB c s).dropLast else none
end Go.Proofs.YtnhngccfbnnpoaaDoor
/- Texts cut at a byte, part 2: parts (program) and l01Split (reference). -/
namespace Go.Proofs.YtnhngccfbnnpoaaDoor
open Go.RowKit Go.Joins

theorem infoStr : (Tryd.prog.info? 9).map (fun i => (i.zero, i.size, i.bytes)) = some (some (.string ⟨#[]⟩), 1, 16) := by kernel_rfl
/-- a new list of texts -/
def RetPs (w : World) (l : List ByteArray) (e : Ending) (w' : World) : Prop := ∃ v, e = .returned v ∧ w'.ownsRow w.heap.size 9 1 v l.length (l.map Value.string) ∧ Below w.heap.size w w'
def szV : Value → Nat
  | .string s => s.size
  | _ => 0
theorem str_snoc (l : List ByteArray) (x : ByteArray) : (l ++ [x]).map Value.string = l.map Value.string ++ [.string x] := by simp
theorem own_snoc {w : World} {base : Nat} {e : TypeId} {v : Value} {l : List ByteArray} {x : ByteArray} (h : w.ownsRow base e 1 v (l.length + 1) (l.map Value.string ++ [.string x])) : w.ownsRow base e 1 v (l ++ [x]).length ((l ++ [x]).map Value.string) := by
  rw [str_snoc, List.length_append]; exact h

set_option maxRecDepth 100000 in
set_option maxHeartbeats 1600000 in
theorem parts_any (s : ByteArray) (w : World) (hs : s.size ≤ 1073741824) : Calls Tryd.prog 79 #[.string s] w (RetPs w (splitB 32 s)) := by
  have hlen := splitB_len 32 s.size s (Nat.le_refl _)
  have hb0 := Lib.hid ((Below.refl w.heap.size w).alloc (Nat.le_refl _) (.cells #[] 9))
  have ho0 := Lib.hid (World.ownsRow_made (base := w.heap.size) (e := 9) (size := 1) w #[] 0 (Nat.le_refl _) (by simp [maxLen]) rfl)
  generalize hR : splitB 32 s = R at *
  have HR := Lib.hid hR; clear hR
  go_enter Tryd.func79, Tryd.ntmps79
  go_wp2_with fail
  go_loopw [0, 3] (fun l o wr => ∃ (ln : ByteArray) (out : List ByteArray), l = .string ln ∧ ln.size ≤ s.size ∧ R = out ++ splitB 32 ln ∧ wr.ownsRow w.heap.size 9 1 o out.length (out.map Value.string) ∧ Below w.heap.size w wr) (fun l _ _ => szV l)
  case atStart => exact ⟨s, [], rfl, Nat.le_refl _, by rw [← HR.out]; rfl, ho0.out, hb0.out⟩
  case round =>
    obtain ⟨ln, out, rfl, hz, hsp, hown, hbl⟩ := hrel
    have HC := Lib.hid (fun wx => cut_any ln 32 wx (by omega))
    have hfl := fnd_le 32 ln
    have hll : out.length ≤ s.size + 1 := by
      have h1 := congrArg List.length hsp
      rw [List.length_append] at h1
      omega
    have Hsp := Lib.hid hsp; clear hsp
    have Hyes := Lib.hid (fun h => splitB_yes (c := 32) (s := ln) h)
    have Hno := Lib.hid (fun h => splitB_no (c := 32) (s := ln) h)
    have Hz := Lib.hid (tail_sizeS ln (fnd 32 ln + 1))
    have Hall := Lib.hid (ext_all ln)
    have Hown := Lib.hid hown
    have Hbl := Lib.hid hbl
    clear hown hbl
    by_cases hf : fnd 32 ln < ln.size
    · rw [decide_eq_true hf] at HC
      have hy := Hyes.out hf
      generalize fnd 32 ln = k at *
      generalize ln.extract 0 k = x at *
      generalize ln.extract (k + 1) ln.size = y at *
      have Hy := Lib.hid hy; clear hy
      clear Hyes Hno Hall
      go_wp2_with fail
      refine (HC.out _).mono ?_; rintro e w5 ⟨rfl, n5, hw5⟩
      have hb5 : Below w.heap.size w w5 := by rw [hw5]; exact below_drewN Hbl.out n5
      have ho5 := Hown.out.drewN n5
      rw [← hw5] at ho5
      have Hb5 := Lib.hid hb5
      have Ho5 := Lib.hid ho5
      have hz5 := hb5.size
      clear hw5 hb5 ho5 Hown Hbl HC
      go_wp2_with (at_builtin; refine wpList_apd 28 9 _ 1 16 Tryd.underlying28 infoStr rfl (by omega) _ _ rfl rfl w.heap.size _ out.length _ rfl Ho5.out #[.string x] 1 1 rfl rfl (by simp [Value.oneCell']) (by simp [maxLen]; omega) (by omega) hz5 ?_; intro v7 w7 hown7 hg7; have Hb7 := Lib.hid (below_apd Hb5.out Ho5.out hg7 (Nat.le_refl _) hz5); have Ho7 := Lib.hid (own_snoc hown7); clear hown7 hg7)
      go_roundw
      case rel => exact ⟨y, out ++ [x], rfl, by have := Hz.out; omega, by rw [Hsp.out, Hy.out]; simp, Ho7.out, Hb7.out⟩
      case measure => simp [szV]; have := Hz.out; omega
    · rw [decide_eq_false hf] at HC
      have hy := Hno.out (by omega)
      have hk : fnd 32 ln = ln.size := by omega
      rw [hk, Hall.out] at HC
      generalize ln.extract (ln.size + 1) ln.size = y at *
      have Hy := Lib.hid hy; clear hy
      clear Hyes Hno Hall
      go_wp2_with fail
      refine (HC.out _).mono ?_; rintro e w5 ⟨rfl, n5, hw5⟩
      have hb5 : Below w.heap.size w w5 := by rw [hw5]; exact below_drewN Hbl.out n5
      have ho5 := Hown.out.drewN n5
      rw [← hw5] at ho5
      have Hb5 := Lib.hid hb5
      have Ho5 := Lib.hid ho5
      have hz5 := hb5.size
      clear hw5 hb5 ho5 Hown Hbl HC
      go_wp2_with (at_builtin; refine wpList_apd 28 9 _ 1 16 Tryd.underlying28 infoStr rfl (by omega) _ _ rfl rfl w.heap.size _ out.length _ rfl Ho5.out #[.string ln] 1 1 rfl rfl (by simp [Value.oneCell']) (by simp [maxLen]; omega) (by omega) hz5 ?_; intro v7 w7 hown7 hg7; have Hb7 := Lib.hid (below_apd Hb5.out Ho5.out hg7 (Nat.le_refl _) hz5); have Ho7 := Lib.hid (own_snoc hown7); clear hown7 hg7)
      go_ret
      have hfin : R = out ++ [ln] := by rw [Hsp.out, Hy.out]
      rw [hfin]; exact ⟨_, rfl, Ho7.out, Hb7.out⟩

set_option maxRecDepth 100000 in
set_option maxHeartbeats 1600000 in
theorem l01Split_any (s : ByteArray) (c : UInt8) (w : World) (hs : s.size ≤ 1073741824) : Calls Tryd.prog 81 #[.string s, .int .u8 (c.toNat : Int)] w (RetPs w (splitB c s)) := by
  have hlen := splitB_len c s.size s (Nat.le_refl _)
  have hb0 := Lib.hid ((Below.refl w.heap.size w).alloc (Nat.le_refl _) (.cells #[] 9))
  have ho0 := Lib.hid (World.ownsRow_made (base := w.heap.size) (e := 9) (size := 1) w #[] 0 (Nat.le_refl _) (by simp [maxLen]) rfl)
  generalize hR : splitB c s = R at *
  have HR := Lib.hid hR; clear hR
  have h00 := Lib.hid (ext_all s)
  go_enter Tryd.func81, Tryd.ntmps81
  go_wp2_with fail
  go_loopw [5, 6, 7] (fun o f i wr => ∃ (out : List ByteArray) (a k : Nat), f = .int .i64 a ∧ i = .int .i64 k ∧ a ≤ k ∧ k ≤ s.size ∧ R = out ++ splitB c (s.extract a s.size) ∧ k - a ≤ fnd c (s.extract a s.size) ∧ wr.ownsRow w.heap.size 9 1 o out.length (out.map Value.string) ∧ Below w.heap.size w wr) (fun _ _ i _ => s.size - (intOf i).toNat)
  case atStart => exact ⟨[], 0, 0, rfl, rfl, Nat.le_refl _, Nat.zero_le _, by rw [h00.out, HR.out]; rfl, Nat.zero_le _, ho0.out, hb0.out⟩
  case round =>
    obtain ⟨out, a, k, rfl, rfl, hak, hks, hsp, hfd, hown, hbl⟩ := hrel
    have hll : out.length ≤ s.size + 1 := by
      have h1 := congrArg List.length hsp
      rw [List.length_append] at h1
      omega
    have Hsp := Lib.hid hsp; clear hsp
    have Hown := Lib.hid hown
    have Hbl := Lib.hid hbl
    have hz5 := hbl.size
    clear hown hbl
    by_cases hlt : k < s.size
    · have hlt' : (k : Int) < (s.size : Int) := by omega
      by_cases he : s[k] = c
      · have hit := sp_hit hak hlt hfd he
        have Hit := Lib.hid hit; clear hit
        have hb : ((s[k].toNat : Int) == (c.toNat : Int)) = true := by rw [he]; simp
        clear he hfd
        have hx : (a : Int) ≤ (k : Int) := by omega
        go_wp2_with (at_builtin; refine wpList_apd 28 9 _ 1 16 Tryd.underlying28 infoStr rfl (by omega) _ _ rfl rfl w.heap.size _ out.length _ rfl Hown.out #[.string (s.extract a k)] 1 1 rfl rfl (by simp [Value.oneCell']) (by simp [maxLen]; omega) (by omega) hz5 ?_; intro v7 w7 hown7 hg7; have Hb7 := Lib.hid (below_apd Hbl.out Hown.out hg7 (Nat.le_refl _) hz5); have Ho7 := Lib.hid (own_snoc hown7); clear hown7 hg7)
        go_roundw
        case rel => exact ⟨out ++ [s.extract a k], k + 1, k + 1, by go_num, by go_num, Nat.le_refl _, by omega, by rw [Hsp.out, Hit.out]; simp, by omega, Ho7.out, Hb7.out⟩
        case measure => simp [intOf]; omega
      · have hm := sp_miss hak hlt hfd he
        have hb : ((s[k].toNat : Int) == (c.toNat : Int)) = false := by
          rw [beq_eq_false_iff_ne]
          intro h
          exact he (UInt8.toNat_inj.1 (by omega))
        clear he hfd
        go_wp2_with fail
        go_roundw
        case rel => exact ⟨out, a, k + 1, rfl, by go_num, by omega, by omega, Hsp.out, hm, Hown.out, Hbl.out⟩
        case measure => simp [intOf]; omega
    · have hend := sp_end (c := c) (s := s) (f := a) (by omega)
      have Hend := Lib.hid hend; clear hend hfd
      have hlt' : (s.size : Int) ≤ (k : Int) := by omega
      have hx : (a : Int) ≤ (s.size : Int) := by omega
      go_wp2_with (at_builtin; refine wpList_apd 28 9 _ 1 16 Tryd.underlying28 infoStr rfl (by omega) _ _ rfl rfl w.heap.size _ out.length _ rfl Hown.out #[.string (s.extract a s.size)] 1 1 rfl rfl (by simp [Value.oneCell']) (by simp [maxLen]; omega) (by omega) hz5 ?_; intro v7 w7 hown7 hg7; have Hb7 := Lib.hid (below_apd Hbl.out Hown.out hg7 (Nat.le_refl _) hz5); have Ho7 := Lib.hid (own_snoc hown7); clear hown7 hg7)
      go_ret
      have hfin : R = out ++ [s.extract a s.size] := by rw [Hsp.out, Hend.out]
      rw [hfin]; exact ⟨_, rfl, Ho7.out, Hb7.out⟩
end Go.Proofs.YtnhngccfbnnpoaaDoor
/- Numbers read from texts, part 3 (printed by gen_rn3.py): ReadDecimal (program). -/
namespace Go.Proofs.YtnhngccfbnnpoaaDoor
open Go.RowKit Go.Joins

theorem tail_size1 (s : ByteArray) : (s.extract 1 s.size).size = s.size - 1 := by rw [ByteArray.size_extract]; omega
theorem dig_wrap (c : UInt8) (h : isDg c = true) : IntKind.u8.wrap ((c.toNat : Int) - 48) = ((c.toNat - 48 : Nat) : Int) ∧ c.toNat - 48 ≤ 9 := by
  unfold isDg at h
  simp only [Bool.and_eq_true, decide_eq_true_eq] at h
  rw [IntKind.wrap_u8]
  omega

set_option maxRecDepth 100000 in
set_option maxHeartbeats 3200000 in
theorem ReadDecimal_any (s : ByteArray) (w : World) (hs : s.size ≤ 1073741824) (ht : Tab w) : Calls Tryd.prog 80 #[.string s] w (RetN1 w s) := by
  have Hnone := Lib.hid (fun h => readN_none (s := s) h)
  have Hbad := Lib.hid (fun k hk h => readN_bad (s := s) k hk h)
  have Hval := Lib.hid (fun h1 h2 => readN_val (s := s) h1 h2)
  have Hbd := Lib.hid (fun h1 h2 => valN_bd (s := s) h1 h2)
  have HD := Lib.hid (fun n wx h0 h1 hx => Decimal_any n wx h0 h1 hx)
  have Ht := Lib.hid ht
  have hb0 := Below.refl w.heap.size w
  have HV := Lib.hid (show valN s = if (bodyN s).size < s.size then -(numVN (bodyN s).data.toList : Int) else numVN (bodyN s).data.toList from rfl)
  clear ht
  by_cases hh : s.data.toList.head? = some 45
  · obtain ⟨h0, he⟩ := head_sizeN hh
    have HT := Lib.hid (show bodyN s = s.extract 1 s.size by unfold bodyN; rw [if_pos hh])
    have hb : ((s[0].toNat : Int) == 45) = true := by rw [he]; rfl
    have hz0 := tail_size1 s
    have hpos : (0 : Int) < (s.size : Int) := by omega
    obtain ⟨T, hT⟩ : ∃ T, s.extract 1 s.size = T := ⟨_, rfl⟩
    rw [HT.out, hT] at Hbad Hbd Hval Hnone HV
    rw [hT] at hz0
    have hlt : T.size < s.size := by omega
    rw [if_pos hlt] at HV
    have hlt' : (T.size : Int) < (s.size : Int) := by omega
    clear HT he hh hz0
    by_cases t0 : T.size = 0
    · have hn := Hnone.out (.inl t0)
      have t0' : ((T.size : Int) == 0) = true := by rw [t0]; rfl
      go_enter Tryd.func80, Tryd.ntmps80
      go_wp2_with fail
      go_ret2
      unfold RetN1; rw [hn]; exact ⟨rfl, hb0⟩
    · have t0' : ((T.size : Int) == 0) = false := by rw [beq_eq_false_iff_ne]; omega
      by_cases t1 : 18 < T.size
      · have hn := Hnone.out (.inr t1)
        have t1' : (18 : Int) < (T.size : Int) := by omega
        go_enter Tryd.func80, Tryd.ntmps80
        go_wp2_with fail
        go_ret2
        unfold RetN1; rw [hn]; exact ⟨rfl, hb0⟩
      · have t1' : ¬ (18 : Int) < (T.size : Int) := by omega
        have hno : ¬(T.size = 0 ∨ 18 < T.size) := by omega
        have Hval2 := Lib.hid (Hval.out hno)
        have Hbd2 := Lib.hid (Hbd.out hno)
        clear Hval Hbd Hnone
        go_enter Tryd.func80, Tryd.ntmps80
        go_wp2_with fail
        go_loop [5, 28] (fun n i => ∃ k : Nat, k ≤ T.size ∧ i = .int .i64 (k : Int) ∧ n = .int .i64 (numVN (T.data.toList.take k) : Int) ∧ ∀ c ∈ T.data.toList.take k, isDg c = true) (fun _ i => T.size - (intOf i).toNat)
        case atStart => exact ⟨0, Nat.zero_le _, rfl, rfl, by simp⟩
        case round =>
          obtain ⟨k, hk, rfl, rfl, hall⟩ := hrel
          have Hall := Lib.hid hall
          by_cases hlk : k < T.size
          · have hlk' : (k : Int) < (T.size : Int) := by omega
            have HDg := Lib.hid (fun wx => isDigitN_any (T)[k] wx)
            have HK := Lib.hid (take_at T k hlk)
            have hN : numVN (T.data.toList.take k) < 100000000000000000 := by
              have h := numVN_lt _ hall
              have h3 : (10 : Nat) ^ (T.data.toList.take k).length ≤ 10 ^ 17 := Nat.pow_le_pow_right (by omega) (by rw [List.length_take]; omega)
              have h4 : (10 : Nat) ^ 17 = 100000000000000000 := by decide
              omega
            have Hsn := Lib.hid (fun (h : isDg (T)[k] = true) => (show ∀ c ∈ T.data.toList.take (k + 1), isDg c = true from fun c hc => by
              rw [List.take_succ_eq_append_getElem (by simpa using hlk)] at hc
              rcases List.mem_append.1 hc with h1 | h1
              · exact Hall.out c h1
              · rw [List.mem_singleton.1 h1]; exact h))
            generalize numVN (T.data.toList.take k) = N at *
            clear hall
            cases hdg : isDg (T)[k] with
            | false =>
              have hn := Hbad.out k hlk hdg
              rw [hdg] at HDg
              clear hdg
              go_wp2_with fail
              refine (HDg.out _).mono ?_; rintro e w1 ⟨rfl, rfl⟩
              go_wp2_with fail
              go_ret2
              unfold RetN1; rw [hn]; exact ⟨rfl, hb0⟩
            | true =>
              obtain ⟨hw, h9⟩ := dig_wrap (T)[k] hdg
              have Hs2 := Lib.hid (Hsn.out hdg)
              rw [hdg] at HDg
              clear hdg Hsn
              generalize (T)[k].toNat - 48 = d at *
              go_wp2_with fail
              refine (HDg.out _).mono ?_; rintro e w1 ⟨rfl, rfl⟩
              go_wp2_with fail
              go_round
              case rel => exact ⟨k + 1, by omega, by go_num, by rw [HK.out]; go_num, Hs2.out⟩
              case measure => simp [intOf]; omega
          · have hd : T.data.toList.take k = T.data.toList := List.take_of_length_le (by simp; omega)
            rw [hd] at hall
            rw [hd]
            have hM := Hbd2.out hall
            have HR := Lib.hid (Hval2.out hall)
            generalize numVN T.data.toList = M at *
            rw [HV.out] at HR
            have hlk' : (T.size : Int) ≤ (k : Int) := by omega
            have HDx := Lib.hid (HD.out (-(M : Int)) w (by omega) (by omega) Ht.out)
            have hwn : IntKind.i64.wrap (-(M : Int)) = -(M : Int) := IntWalk.i64_in _ (by omega)
            clear hall hd Hall
            by_cases hq : decS (-(M : Int)) = s
            · have HQ := Lib.hid (show readN s = some (-(M : Int)) by rw [HR.out, if_pos hq])
              rw [hq] at HDx
              clear hq HR
              go_wp2_with fail
              refine HDx.out.mono ?_; rintro e w5 ⟨rfl, hb5⟩
              go_wp2_with fail
              go_ret2
              unfold RetN1; rw [HQ.out]; exact ⟨rfl, hb5⟩
            · have HQ := Lib.hid (show readN s = none by rw [HR.out, if_neg hq])
              have hbn : ((decS (-(M : Int))).toList != s.toList) = true := bne_iff_ne.2 fun e => hq (ba_inj e)
              have hbq : ((decS (-(M : Int))).toList == s.toList) = false := beq_eq_false_iff_ne.2 fun e => hq (ba_inj e)
              generalize decS (-(M : Int)) = Y at *
              clear hq HR
              go_wp2_with fail
              refine HDx.out.mono ?_; rintro e w5 ⟨rfl, hb5⟩
              go_wp2_with fail
              go_ret2
              unfold RetN1; rw [HQ.out]; exact ⟨rfl, hb5⟩
  · have HT := Lib.hid (show bodyN s = s by unfold bodyN; rw [if_neg hh])
    rw [HT.out] at Hbad Hbd Hval Hnone HV
    rw [if_neg (Nat.lt_irrefl _)] at HV
    clear HT
    by_cases t0 : s.size = 0
    · have hn := Hnone.out (.inl t0)
      have t0' : ((s.size : Int) == 0) = true := by rw [t0]; rfl
      have hp0 : ¬ (0 : Int) < (s.size : Int) := by omega
      go_enter Tryd.func80, Tryd.ntmps80
      go_wp2_with fail
      go_ret2
      unfold RetN1; rw [hn]; exact ⟨rfl, hb0⟩
    · have t0' : ((s.size : Int) == 0) = false := by rw [beq_eq_false_iff_ne]; omega
      have h0 : 0 < s.size := by omega
      have hpos : (0 : Int) < (s.size : Int) := by omega
      have hb : ((s[0].toNat : Int) == 45) = false := by
        rw [beq_eq_false_iff_ne]; intro h
        exact head_not hh h0 (UInt8.toNat_inj.1 (by have : (45 : UInt8).toNat = 45 := rfl
                                                    omega))
      by_cases t1 : 18 < s.size
      · have hn := Hnone.out (.inr t1)
        have t1' : (18 : Int) < (s.size : Int) := by omega
        go_enter Tryd.func80, Tryd.ntmps80
        go_wp2_with fail
        go_ret2
        unfold RetN1; rw [hn]; exact ⟨rfl, hb0⟩
      · have t1' : ¬ (18 : Int) < (s.size : Int) := by omega
        have hno : ¬(s.size = 0 ∨ 18 < s.size) := by omega
        have Hval2 := Lib.hid (Hval.out hno)
        have Hbd2 := Lib.hid (Hbd.out hno)
        clear Hval Hbd Hnone
        go_enter Tryd.func80, Tryd.ntmps80
        go_wp2_with fail
        go_loop [5, 28] (fun n i => ∃ k : Nat, k ≤ s.size ∧ i = .int .i64 (k : Int) ∧ n = .int .i64 (numVN (s.data.toList.take k) : Int) ∧ ∀ c ∈ s.data.toList.take k, isDg c = true) (fun _ i => s.size - (intOf i).toNat)
        case atStart => exact ⟨0, Nat.zero_le _, rfl, rfl, by simp⟩
        case round =>
          obtain ⟨k, hk, rfl, rfl, hall⟩ := hrel
          have Hall := Lib.hid hall
          by_cases hlk : k < s.size
          · have hlk' : (k : Int) < (s.size : Int) := by omega
            have HDg := Lib.hid (fun wx => isDigitN_any (s)[k] wx)
            have HK := Lib.hid (take_at s k hlk)
            have hN : numVN (s.data.toList.take k) < 100000000000000000 := by
              have h := numVN_lt _ hall
              have h3 : (10 : Nat) ^ (s.data.toList.take k).length ≤ 10 ^ 17 := Nat.pow_le_pow_right (by omega) (by rw [List.length_take]; omega)
              have h4 : (10 : Nat) ^ 17 = 100000000000000000 := by decide
              omega
            have Hsn := Lib.hid (fun (h : isDg (s)[k] = true) => (show ∀ c ∈ s.data.toList.take (k + 1), isDg c = true from fun c hc => by
              rw [List.take_succ_eq_append_getElem (by simpa using hlk)] at hc
              rcases List.mem_append.1 hc with h1 | h1
              · exact Hall.out c h1
              · rw [List.mem_singleton.1 h1]; exact h))
            generalize numVN (s.data.toList.take k) = N at *
            clear hall
            cases hdg : isDg (s)[k] with
            | false =>
              have hn := Hbad.out k hlk hdg
              rw [hdg] at HDg
              clear hdg
              go_wp2_with fail
              refine (HDg.out _).mono ?_; rintro e w1 ⟨rfl, rfl⟩
              go_wp2_with fail
              go_ret2
              unfold RetN1; rw [hn]; exact ⟨rfl, hb0⟩
            | true =>
              obtain ⟨hw, h9⟩ := dig_wrap (s)[k] hdg
              have Hs2 := Lib.hid (Hsn.out hdg)
              rw [hdg] at HDg
              clear hdg Hsn
              generalize (s)[k].toNat - 48 = d at *
              go_wp2_with fail
              refine (HDg.out _).mono ?_; rintro e w1 ⟨rfl, rfl⟩
              go_wp2_with fail
              go_round
              case rel => exact ⟨k + 1, by omega, by go_num, by rw [HK.out]; go_num, Hs2.out⟩
              case measure => simp [intOf]; omega
          · have hd : s.data.toList.take k = s.data.toList := List.take_of_length_le (by simp; omega)
            rw [hd] at hall
            rw [hd]
            have hM := Hbd2.out hall
            have HR := Lib.hid (Hval2.out hall)
            generalize numVN s.data.toList = M at *
            rw [HV.out] at HR
            have hlk' : (s.size : Int) ≤ (k : Int) := by omega
            have HDx := Lib.hid (HD.out ((M : Int)) w (by omega) (by omega) Ht.out)
            have hwn : IntKind.i64.wrap ((M : Int)) = (M : Int) := IntWalk.i64_in _ (by omega)
            clear hall hd Hall
            by_cases hq : decS ((M : Int)) = s
            · have HQ := Lib.hid (show readN s = some ((M : Int)) by rw [HR.out, if_pos hq])
              rw [hq] at HDx
              clear hq HR
              go_wp2_with fail
              refine HDx.out.mono ?_; rintro e w5 ⟨rfl, hb5⟩
              go_wp2_with fail
              go_ret2
              unfold RetN1; rw [HQ.out]; exact ⟨rfl, hb5⟩
            · have HQ := Lib.hid (show readN s = none by rw [HR.out, if_neg hq])
              have hbn : ((decS ((M : Int))).toList != s.toList) = true := bne_iff_ne.2 fun e => hq (ba_inj e)
              have hbq : ((decS ((M : Int))).toList == s.toList) = false := beq_eq_false_iff_ne.2 fun e => hq (ba_inj e)
              generalize decS ((M : Int)) = Y at *
              clear hq HR
              go_wp2_with fail
              refine HDx.out.mono ?_; rintro e w5 ⟨rfl, hb5⟩
              go_wp2_with fail
              go_ret2
              unfold RetN1; rw [HQ.out]; exact ⟨rfl, hb5⟩
end Go.Proofs.YtnhngccfbnnpoaaDoor
