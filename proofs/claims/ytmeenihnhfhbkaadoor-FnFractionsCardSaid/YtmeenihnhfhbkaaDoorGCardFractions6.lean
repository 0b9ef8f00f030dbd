/- Merged texts: Bo1, U4, U5, One, Dr1, U6, U7, Dg1, Fr8, Fr9, Dm1, Dm2, Dm3, Dm4, Dm5, Dm6, Dm7, Dm8, Dm9, Dm10, Dm11, Dm12, Dm14. -/
import Derived.Test.YtmeenihnhfhbkaaDoorGCardFractions1
import Derived.Test.YtmeenihnhfhbkaaDoorGCardFractions5
import Derived.Test.YtmeenihnhfhbkaaDoorGCardFractions2
import Derived.Test.YtmeenihnhfhbkaaDoorGCardFractions3
import Derived.Deep.DeepCutAuto
import Derived.Deep.CutRange
/- Bounds of errors, part 1: binomial coefficients and sums in plain words. -/
namespace Go.Proofs.YtmeenihnhfhbkaaDoor

def ch : Nat → Nat → Nat
  | _, 0 => 1
  | 0, _ + 1 => 0
  | n + 1, k + 1 => ch n k + ch n (k + 1)
theorem ch_0 (n : Nat) : ch n 0 = 1 := by cases n <;> rfl
theorem ch_gt : ∀ n k, n < k → ch n k = 0
  | _, 0, h => by omega
  | 0, _ + 1, _ => rfl
  | n + 1, k + 1, h => by show ch n k + ch n (k + 1) = 0; rw [ch_gt n k (by omega), ch_gt n (k + 1) (by omega)]
theorem ch_both : ∀ n k, ch n (k + 1) * (k + 1) = ch n k * (n - k) ∧ ch (n + 1) (k + 1) * (k + 1) = ch n k * (n + 1)
  | 0, k => by
    refine ⟨by show 0 * (k + 1) = _; rw [Nat.zero_sub, Nat.mul_zero, Nat.zero_mul], ?_⟩
    show (ch 0 k + ch 0 (k + 1)) * (k + 1) = _
    cases k with
    | zero => rfl
    | succ k => show (0 + 0) * _ = 0 * _; simp
  | n + 1, k => by
    have h1 := ch_both n k
    have h2 : ch (n + 1) (k + 1) * (k + 1) = ch (n + 1) k * (n + 1 - k) := by
      cases k with
      | zero => rw [h1.2, ch_0, ch_0]; simp
      | succ j =>
        have h3 := (ch_both n j).1
        rw [h1.2]
        show ch n (j + 1) * (n + 1) = (ch n j + ch n (j + 1)) * (n + 1 - (j + 1))
        by_cases hj : j ≤ n
        · rw [Nat.add_mul, show n + 1 - (j + 1) = n - j by omega, ← h3, ← Nat.mul_add]
          congr 1; omega
        · rw [ch_gt n j (by omega), ch_gt n (j + 1) (by omega)]; simp
    refine ⟨h2, ?_⟩
    show (ch (n + 1) k + ch (n + 1) (k + 1)) * (k + 1) = _
    rw [Nat.add_mul, h2, ← Nat.mul_add]
    by_cases hk : k ≤ n + 1
    · congr 1; omega
    · rw [ch_gt (n + 1) k (by omega)]; simp
theorem ch_next (n k : Nat) : ch n k * (n - k) / (k + 1) = ch n (k + 1) := by
  rw [← (ch_both n k).1]; exact Nat.mul_div_cancel _ (by omega)
theorem ch_diag (n k : Nat) : ch n k * (n + 1) / (k + 1) = ch (n + 1) (k + 1) := by
  rw [← (ch_both n k).2]; exact Nat.mul_div_cancel _ (by omega)
theorem ch_up (n k : Nat) : ch n k ≤ ch (n + 1) k := by
  cases k with
  | zero => rw [ch_0, ch_0]; exact Nat.le_refl _
  | succ k => show _ ≤ ch n k + ch n (k + 1); omega
theorem ch_dg (n k : Nat) : ch n k ≤ ch (n + 1) (k + 1) := by show _ ≤ ch n k + ch n (k + 1); omega
theorem ch_pow : ∀ n k, ch n k ≤ 2 ^ n
  | n, 0 => by rw [ch_0]; exact Nat.one_le_two_pow
  | 0, _ + 1 => by simp [ch]
  | n + 1, k + 1 => by
    have h1 := ch_pow n k
    have h2 := ch_pow n (k + 1)
    show ch n k + ch n (k + 1) ≤ _
    rw [Nat.pow_succ]; omega
theorem ch_big {n k : Nat} (h : 1000000000000 < ch n k) : 20 ≤ n := by
  refine Nat.le_of_not_lt fun hn => ?_
  have h1 := ch_pow n k
  have h2 : 2 ^ n ≤ 2 ^ 20 := Nat.pow_le_pow_right (by omega) (by omega)
  have : (2 : Nat) ^ 20 = 1048576 := by decide
  omega
/-- a great coefficient stays great -/
theorem ch_stay {n k : Nat} (h : 1000000000000 < ch n k) (hk : k ≤ 8) : 1000000000000 < ch n (k + 1) := by
  have h1 := ch_big h
  have h2 := (ch_both n k).1
  refine Nat.lt_of_lt_of_le h ?_
  have h3 : ch n k * (k + 1) ≤ ch n (k + 1) * (k + 1) := by rw [h2]; exact Nat.mul_le_mul_left _ (by omega)
  exact Nat.le_of_mul_le_mul_right h3 (by omega)
/-- the greatest value and one more -/
def top : Nat := 1000000000001
def cp (x : Nat) : Nat := min x top
theorem cp_le (x : Nat) : cp x ≤ top := Nat.min_le_right _ _
theorem cp_step (n k : Nat) (hk : k ≤ 8) : cp (ch n (k + 1)) = if cp (ch n k) ≤ 1000000000000 then min (cp (ch n k) * (n - k) / (k + 1)) top else cp (ch n k) := by
  unfold cp
  split
  · rename_i h
    have e : min (ch n k) top = ch n k := by unfold top at h ⊢; omega
    rw [e, ch_next]
  · rename_i h
    have h1 : 1000000000000 < ch n k := by unfold top at h; omega
    have h2 := ch_stay h1 hk
    unfold top; omega
/-- the errors of the first k differences after n steps -/
def sm (s : Nat → Nat) (n : Nat) : Nat → Nat
  | 0 => 0
  | k + 1 => sm s n k + s k * ch n k
theorem sm_mono (s : Nat → Nat) (n : Nat) : ∀ k, sm s n k ≤ sm s (n + 1) k
  | 0 => Nat.le_refl _
  | k + 1 => Nat.add_le_add (sm_mono s n k) (Nat.mul_le_mul_left _ (ch_up n k))
theorem sm_le (s : Nat → Nat) (n k : Nat) : ∀ j, sm s n k ≤ sm s n (k + j)
  | 0 => Nat.le_refl _
  | j + 1 => Nat.le_trans (sm_le s n k j) (Nat.le_add_right _ _)
def sb (s : Nat → Nat) (m n : Nat) : Nat := cp (sm s n m)
theorem sb_mono (s : Nat → Nat) (m n : Nat) : sb s m n ≤ sb s m (n + 1) := by
  have := sm_mono s n m
  unfold sb cp; omega
theorem sb_mono2 (s : Nat → Nat) (m n : Nat) : ∀ j, sb s m n ≤ sb s m (n + j)
  | 0 => Nat.le_refl _
  | j + 1 => Nat.le_trans (sb_mono2 s m n j) (sb_mono s m (n + j))
/-- a summand that is too great -/
theorem sb_over {s : Nat → Nat} {m n k : Nat} (hk : k < m) (h : 1000000000000 < sm s n k + s k * ch n k) : sb s m n = top := by
  have := sm_le s n (k + 1) (m - (k + 1))
  rw [show k + 1 + (m - (k + 1)) = m by omega] at this
  have e : sm s n (k + 1) = sm s n k + s k * ch n k := rfl
  unfold sb cp top; omega
theorem quo_gt {a c M : Nat} (ha : 0 < a) (h : M / a < c) : M < a * c := by
  rw [Nat.mul_comm]
  exact (Nat.div_lt_iff_lt_mul ha).1 h
theorem quo_le {a c M : Nat} (h : c ≤ M / a) : a * c ≤ M := by
  rw [Nat.mul_comm]
  by_cases ha : 0 < a
  · exact (Nat.le_div_iff_mul_le ha).1 h
  · obtain rfl : a = 0 := by omega
    simp
/-- the product with a capped coefficient -/
theorem cp_over {a x : Nat} (ha : 0 < a) (h : 1000000000000 / a < cp x) : 1000000000000 < a * x := by
  have h1 := quo_gt ha h
  exact Nat.lt_of_lt_of_le h1 (Nat.mul_le_mul_left _ (Nat.min_le_left _ _))
theorem cp_under {a x : Nat} (_ha : 0 < a) (h : cp x ≤ 1000000000000 / a) : cp x = x ∧ a * x ≤ 1000000000000 := by
  have h1 := quo_le h
  have h2 : cp x ≤ 1000000000000 := Nat.le_trans h (Nat.div_le_self _ _)
  have h3 : cp x = x := by unfold cp top at *; omega
  rw [h3] at h1
  exact ⟨h3, h1⟩
/-- the reference's step -/
def rs (s : Nat → Nat) (n : Nat) : Nat → Nat
  | 0 => 0
  | k + 1 => if 0 < s k then min top (rs s n k + s k * min (cp (ch n k)) (1000000000000 / s k + 1)) else rs s n k
theorem rs_eq (s : Nat → Nat) (n : Nat) : ∀ k, rs s n k = cp (sm s n k)
  | 0 => by simp [rs, sm, cp]
  | k + 1 => by
    have ih := rs_eq s n k
    show (if 0 < s k then min top (rs s n k + s k * min (cp (ch n k)) (1000000000000 / s k + 1)) else rs s n k) = cp (sm s n k + s k * ch n k)
    rw [ih]
    by_cases h : 0 < s k
    · rw [if_pos h]
      by_cases h2 : cp (ch n k) ≤ 1000000000000 / s k
      · obtain ⟨h3, h4⟩ := cp_under h h2
        rw [h3]
        rw [h3] at h2
        rw [show min (ch n k) (1000000000000 / s k + 1) = ch n k by omega]
        generalize s k * ch n k = x at *
        unfold cp top; omega
      · have h3 := cp_over h (Nat.lt_of_not_le h2)
        rw [show min (cp (ch n k)) (1000000000000 / s k + 1) = 1000000000000 / s k + 1 by omega]
        have h4 := quo_gt (c := 1000000000000 / s k + 1) h (Nat.lt_succ_self _)
        generalize s k * ch n k = x at *
        generalize s k * (1000000000000 / s k + 1) = y at *
        unfold cp top; omega
    · rw [if_neg h, show s k = 0 by omega]; simp
/-- the greatest number of steps -/
def SafeAt (s : Nat → Nat) (m limit r : Nat) : Prop := r ≤ 100000 ∧ sb s m r ≤ limit ∧ (r = 100000 ∨ limit < sb s m (r + 1))
theorem safe_one {s : Nat → Nat} {m limit r r' : Nat} (h : SafeAt s m limit r) (h' : SafeAt s m limit r') : r = r' := by
  obtain ⟨a, b, c⟩ := h
  obtain ⟨a', b', c'⟩ := h'
  by_cases h1 : r < r'
  · have := sb_mono2 s m (r + 1) (r' - (r + 1))
    rw [show r + 1 + (r' - (r + 1)) = r' by omega] at this
    omega
  · by_cases h2 : r' < r
    · have := sb_mono2 s m (r' + 1) (r - (r' + 1))
      rw [show r' + 1 + (r - (r' + 1)) = r by omega] at this
      omega
    · omega
end Go.Proofs.YtmeenihnhfhbkaaDoor
/- Errors of tables, part 4: binomial coefficients, patterns of errors. -/
namespace Go.Proofs.YtmeenihnhfhbkaaDoor
open Go.RowKit Go.Joins

theorem ch_along (m j : Nat) : ∀ d, ch (m + j) j ≤ ch (m + (j + d)) (j + d)
  | 0 => Nat.le_refl _
  | d + 1 => Nat.le_trans (ch_along m j d) (ch_dg (m + (j + d)) (j + d))
theorem cp_small {x : Nat} (h : x ≤ 1000000000000) : cp x = x := by unfold cp top; omega
theorem cp_great {x : Nat} (h : 1000000000000 < x) : cp x = top := by unfold cp top; omega
theorem bin_ch : ∀ n, n < 9 → ∀ k, k < 9 → binV n k = ch n k ∧ cp (ch n k) = ch n k ∧ ch n k ≤ 70 := by decide +kernel

/-- the code of an order and an error -/
def oc (a b : Int) : Int := if inB a 0 8 && inB b 0 1000000 then 0 else 2
theorem oc_ok {a b : Int} (h : oc a b = 0) : (0 ≤ a ∧ a ≤ 8) ∧ 0 ≤ b ∧ b ≤ 1000000 := by
  unfold oc at h
  split at h
  · rename_i h1
    rw [Bool.and_eq_true] at h1
    exact ⟨inB_iff.1 h1.1, inB_iff.1 h1.2⟩
  · cases h
theorem oc_cases (a b : Int) : oc a b = 0 ∨ oc a b = 2 := by
  unfold oc
  split
  · exact .inl rfl
  · exact .inr rfl
theorem oc_fst {a b : Int} (h : inB a 0 8 = false) : oc a b = 2 := by unfold oc; rw [h]; rfl
theorem oc_snd {a b : Int} (h : inB b 0 1000000 = false) : oc a b = 2 := by unfold oc; rw [h, Bool.and_false]; rfl
theorem oc_both {a b : Int} (h : inB a 0 8 = true) (h2 : inB b 0 1000000 = true) : oc a b = 0 := by unfold oc; rw [h, h2]; rfl

/-- how great the error of a difference can be -/
def dbV (a b : Int) : Int := if oc a b = 0 then b * ((2 ^ a.toNat : Nat) : Int) else 0
theorem shl_small (b : Int) (h0 : 0 ≤ b) (h1 : b ≤ 1000000) : ∀ n : Nat, n < 9 → wrap64 (b * 2 ^ n) = b * ((2 ^ n : Nat) : Int) := by
  intro n hn
  have e : (b * 2 ^ n : Int) = b * ((2 ^ n : Nat) : Int) := by rw [Int.natCast_pow]; rfl
  rw [e]
  have h2 : (2 : Nat) ^ n ≤ 256 := Nat.le_trans (Nat.pow_le_pow_right (by omega) (show n ≤ 8 by omega)) (by decide)
  generalize (2 : Nat) ^ n = x at *
  have h3 := abs_mul (a := b) (b := (x : Int)) (A := 1000000) (B := 256) (by omega) (by omega)
  exact IntWalk.wrap64_in _ ⟨by omega, by omega⟩
theorem ret2_int {a b : Int} {c : Value} (h : a = b) : Ending.returned (.tuple #[.int .i64 a, c]) = .returned (.tuple #[.int .i64 b, c]) := by rw [h]
/-- errors that make the error of a difference greatest -/
def wpf (n : Nat) (s : Int) (k : Nat) : Int := if (n - k) % 2 = 1 then -s else s
theorem wpf_wp (n : Nat) (s : Int) : wpf n s = fun k => s * wp n k := by
  funext k
  unfold wpf wp
  split <;> simp
theorem put_put (f : Nat → Int) (a : Nat) (x y : Int) : put (put f a x) a y = put f a y := by
  funext i
  show (if i = a then y else if i = a then x else f i) = if i = a then y else f i
  split <;> rfl
def upTo (k : Nat) (f : Nat → Int) : Nat → Int := fun i => if i < k then f i else 0
theorem upTo_put (k : Nat) (f : Nat → Int) (x : Int) (h : f k = x) : put (upTo k f) k x = upTo (k + 1) f := by
  funext i
  show (if i = k then x else if i < k then f i else 0) = if i < k + 1 then f i else 0
  by_cases e : i = k
  · subst e; rw [if_pos rfl, if_pos (by omega), h]
  · rw [if_neg e]
    by_cases e2 : i < k
    · rw [if_pos e2, if_pos (by omega)]
    · rw [if_neg e2, if_neg (by omega)]
end Go.Proofs.YtmeenihnhfhbkaaDoor
/- Errors of tables, part 5: patterns of errors. -/
namespace Go.Proofs.YtmeenihnhfhbkaaDoor
open Go.RowKit Go.Joins

/-- how an error spreads -/
def spf (n : Nat) (s : Int) (k : Nat) : Int := if k % 2 = 1 then -(s * ((ch n k : Nat) : Int)) else s * ((ch n k : Nat) : Int)
end Go.Proofs.YtmeenihnhfhbkaaDoor
/- The draw 'one'. -/
namespace Go.Proofs.YtmeenihnhfhbkaaDoor
open Go.RowKit Go.Joins

set_option maxHeartbeats 400000 in
theorem one_any (B g k : Nat) (bs : List UInt8) (n : Int) (w : World) (h : SrcAt w B g k bs) (hk : k < 4611686018427387900) :
    Calls Tryd.prog 55 #[.pointer (some ⟨g, 0, none⟩), .int .i64 n] w (DrawnB w B g (k + 2) bs) := by
  have H := Lib.hid h; clear h
  go_enter Tryd.func55, Tryd.ntmps55
  go_wp2_with fail
  refine (pick_any B g k bs n _ H.out (by omega)).mono ?_; rintro e w1 ⟨x, rfl, _, hs1, hg1⟩
  have Hs1 := Lib.hid hs1; clear hs1
  go_wp2_with fail
  go_ret
  exact ⟨_, rfl, Hs1.out, hg1⟩

end Go.Proofs.YtmeenihnhfhbkaaDoor
/- Draws: one of some numbers is drawn. -/
namespace Go.Proofs.YtmeenihnhfhbkaaDoor
open Go.RowKit Go.Joins

set_option maxHeartbeats 400000 in
theorem among_in (B g k m : Nat) (l : List Int) (bs : List UInt8) (w : World) (h : SrcAt w B g k bs) (hk : k < 4611686018427387800) (hm : l.length = m) (hm2 : 2 ≤ m) (hm3 : m ≤ 200) :
    Calls Tryd.prog 56 #[.pointer (some ⟨g, 0, none⟩), .slice (some ⟨w.heap.size, 0, none⟩) m m] (w.alloc (.cells (l.map (Value.int .i64)).toArray 2)) fun e w' => ∃ x : Int, x ∈ l ∧ e = .returned (.int .i64 x) ∧ SrcAt w' B g (k + 2) bs ∧ w.grownBy w' (some g) := by
  have hlt := h.lt
  have hbk := (Below.refl w.heap.size w).alloc (Nat.le_refl _) (.cells (l.map (Value.int .i64)).toArray 2)
  have hnc : ∀ i (hi : i < l.length), (w.alloc (.cells (l.map (Value.int .i64)).toArray 2)).cell? ⟨w.heap.size, i, none⟩ = some (.int .i64 l[i]) := fun i hi => by
    have := new_cells w (l.map (Value.int .i64)).toArray 2 i (.int .i64 l[i]) (by simp [hi])
    rwa [show (⟨w.heap.size, 0, none⟩ : Addr).add i = ⟨w.heap.size, i, none⟩ by unfold Addr.add; split <;> simp_all] at this
  have H := Lib.hid (h.below hbk); clear h
  have Hc := Lib.hid hnc; clear hnc
  have Hg := Lib.hid (fun w' (h : (w.alloc (.cells (l.map (Value.int .i64)).toArray 2)).grownBy w' (some g)) => grown_from_alloc h)
  have hsz : w.heap.size < (w.alloc (.cells (l.map (Value.int .i64)).toArray 2)).heap.size := by simp
  have hm4 : (m : Int) ≤ 200 := by omega
  clear hbk
  generalize w.alloc (.cells (l.map (Value.int .i64)).toArray 2) = wl at *
  go_enter Tryd.func56, Tryd.ntmps56
  go_wp2_with fail
  refine (pick_any B g k bs m _ H.out (by omega)).mono ?_; rintro e w1 ⟨x, rfl, ⟨hx0, hx1, _⟩, hs1, hg1⟩
  have Hs1 := Lib.hid hs1; clear hs1
  obtain ⟨i, rfl⟩ : ∃ i : Nat, x = i := ⟨x.toNat, by omega⟩
  have hx2 := hx1 (by omega)
  have hi : i < l.length := by omega
  have hcell := (World.cell?_of_block (a := ⟨w.heap.size, i, none⟩) (hg1.block w.heap.size hsz (fun e => by injection e; omega))).trans (Hc.out i hi)
  have hg2 := Hg.out _ hg1
  have hin := Lib.hid (show l[i] ∈ l from List.getElem_mem hi)
  generalize l[i] = z at *
  clear hx1 hg1
  go_wp2_with fail
  go_ret
  exact ⟨z, hin.out, rfl, Hs1.out, hg2⟩
end Go.Proofs.YtmeenihnhfhbkaaDoor
/- Errors of tables, part 6: draws. -/
namespace Go.Proofs.YtmeenihnhfhbkaaDoor
open Go.RowKit Go.Joins

theorem own_gs {wr w2 : World} {gs B n sz : Nat} {e : TypeId} {v : Value} {xs : List Value} (h : wr.ownsRow B e sz v n xs) (h2 : wr.grownBy w2 (some gs)) (hgs : gs < B) : w2.ownsRow B e sz v n xs :=
  h.kept h2 (.inr (fun e => by have := (h.lt gs e).1; omega))
theorem grown_own {w w1 w2 : World} {g n sz : Nat} {e : TypeId} {v : Value} {xs : List Value} (h : w.grownBy w1 (some g)) (ho : w1.ownsRow w.heap.size e sz v n xs) (h2 : w1.grownBy w2 v.ownBlock) : w.grownBy w2 (some g) :=
  ⟨h2.os.trans h.os, h2.tape.trans h.tape, h2.output.trans h.output, Nat.le_trans h.size h2.size, fun i hi hne => (h2.block i (Nat.lt_of_lt_of_le hi h.size) (fun e => by have := (ho.lt i e.symm).1; omega)).trans (h.block i hi hne)⟩
theorem grown_set (w' : World) (g i : Nat) (v : Value) : w'.grownBy (w'.setCell ⟨g, i, none⟩ v) (some g) :=
  ⟨rfl, rfl, rfl, by simp [World.setCell], fun i _ hi => Below.heap_setCell _ _ _ _ (fun e => hi (by rw [e]))⟩
theorem grown_refl (w : World) (r : Option Nat) : w.grownBy w r := ⟨rfl, rfl, rfl, Nat.le_refl _, fun _ _ _ => rfl⟩

theorem l17DrawValue_c (B g k : Nat) (bs : List UInt8) (w : World) (h : SrcAt w B g k bs) (hk : k < 4611686018427387000) : Calls Tryd.prog 54 #[.pointer (some ⟨g, 0, none⟩)] w (Drawn w B g (k + 8) bs (fun _ => True)) := by
  have H := Lib.hid h
  clear h
  go_enter Tryd.func54, Tryd.ntmps54
  go_wp2_with fail
  refine (one_any B g k bs 20 _ H.out (by omega)).mono ?_; rintro e w1 ⟨x, rfl, hs1, hg1⟩
  have Hs1 := Lib.hid hs1
  have Hg1 := Lib.hid hg1
  clear hs1 hg1
  cases x with
  | true =>
    go_wp2_with fail
    refine (among_in B g (k + 2) 5 [-1000000000001, -1000000000000, 1000000000000, 1000000000001, -9223372036854775808] bs w1 Hs1.out (by omega) rfl (by omega) (by omega)).mono ?_; rintro e w2 ⟨x, _, rfl, hs2, hg2⟩
    have Hf := Lib.hid (And.intro (hs2.more (show k + 2 + 2 ≤ k + 8 by omega)) (grown_trans Hg1.out hg2))
    clear hs2 hg2
    go_wp2_with fail
    go_ret
    exact ⟨x, rfl, trivial, Hf.out.1, Hf.out.2⟩
  | false =>
    go_wp2_with fail
    refine (pick_any B g (k + 2) bs 2000 _ Hs1.out (by omega)).mono ?_; rintro e w2 ⟨x, rfl, _, hs2, hg2⟩
    have Hs2 := Lib.hid hs2
    have Hg2 := Lib.hid (grown_trans Hg1.out hg2)
    clear hs2 hg2
    go_wp2_with fail
    refine (pick_any B g (k + 2 + 2) bs 3 _ Hs2.out (by omega)).mono ?_; rintro e w3 ⟨y, rfl, _, hs3, hg3⟩
    have Hs3 := Lib.hid hs3
    have Hg3 := Lib.hid (grown_trans Hg2.out hg3)
    clear hs3 hg3
    go_wp2_with fail
    refine (pick_any B g (k + 2 + 2 + 2) bs 100 _ Hs3.out (by omega)).mono ?_; rintro e w4 ⟨z, rfl, _, hs4, hg4⟩
    have Hf := Lib.hid (And.intro (hs4.more (show k + 2 + 2 + 2 + 2 ≤ k + 8 by omega)) (grown_trans Hg3.out hg4))
    clear hs4 hg4
    go_wp2_with fail
    go_ret
    exact ⟨_, rfl, trivial, Hf.out.1, Hf.out.2⟩
def Drawn2 (w : World) (B g k : Nat) (bs : List UInt8) (e : Ending) (w' : World) : Prop :=
  ∃ x y, e = .returned (.tuple #[.int .i64 x, .int .i64 y]) ∧ SrcAt w' B g k bs ∧ w.grownBy w' (some g)
/-- a list is drawn -/
def DrawnL (M : Nat) (w : World) (B g k : Nat) (bs : List UInt8) (e : Ending) (w' : World) : Prop :=
  ∃ v n f, e = .returned v ∧ n ≤ M ∧ w'.ownsRow w.heap.size 2 1 v n (tab n f) ∧ SrcAt w' B g k bs ∧ w.grownBy w' (some g)
theorem tab_more (n : Nat) (f : Nat → Int) (x : Int) : ∃ f', tab (n + 1) f' = tab n f ++ [.int .i64 x] := ⟨fun i => if i < n then f i else x, by
  rw [tab_succ, if_neg (by omega)]
  congr 1
  exact tab_congr fun i hi => by rw [if_pos hi]⟩
end Go.Proofs.YtmeenihnhfhbkaaDoor
/- Errors of tables, part 7: what the laws draw. -/
namespace Go.Proofs.YtmeenihnhfhbkaaDoor
open Go.RowKit Go.Joins

theorem below_src {w w2 w3 : World} (hb : Below w.heap.size w w2) (hg : w2.grownBy w3 (some w.heap.size)) : Below w.heap.size w w3 := hb.grown hg hb.size (fun k hk => by cases hk; exact Nat.le_refl _)
/-- a list and a number are drawn -/
def RetDL (M : Nat) (w : World) (e : Ending) (w' : World) : Prop :=
  ∃ v n f x, e = .returned (.tuple #[v, .int .i64 x]) ∧ n ≤ M ∧ w'.ownsRow w.heap.size 2 1 v n (tab n f) ∧ Below w.heap.size w w'
def RetD2 (w : World) (e : Ending) (w' : World) : Prop :=
  ∃ x y, e = .returned (.tuple #[.int .i64 x, .int .i64 y]) ∧ Below w.heap.size w w'
def RetD3 (w : World) (e : Ending) (w' : World) : Prop :=
  ∃ x y z, e = .returned (.tuple #[.int .i64 x, .int .i64 y, .int .i64 z]) ∧ Below w.heap.size w w'

end Go.Proofs.YtmeenihnhfhbkaaDoor
/- Draws: a row of the call's own that grows while numbers are drawn; a text is spoilt (l01Spoil). -/
namespace Go.Proofs.YtmeenihnhfhbkaaDoor
open Go.RowKit Go.Joins

/-- in the world w, reached from W: the source g has done at most k draws, v is a row of the call's own, and of what was there only the source has turned -/
structure DrR (W w : World) (B g k : Nat) (bs : List UInt8) (e : TypeId) (sz : Nat) (v : Value) (n : Nat) (cs : List Value) : Prop where
  lt : g < W.heap.size
  src : SrcAt w B g k bs
  row : w.ownsRow W.heap.size e sz v n cs
  gr : W.grownBy w (some g)
theorem DrR.draw {W w w' : World} {B g k k' : Nat} {bs : List UInt8} {e : TypeId} {sz n : Nat} {v : Value} {cs : List Value} (h : DrR W w B g k bs e sz v n cs) (hs : SrcAt w' B g k' bs) (hg : w.grownBy w' (some g)) : DrR W w' B g k' bs e sz v n cs :=
  ⟨h.lt, hs, h.row.kept hg (by
    cases hv : v.ownBlock with
    | none => exact .inl rfl
    | some x => exact .inr fun e => by have := (h.row.lt x hv).1; have := h.lt; injection e; omega), grown_trans h.gr hg⟩
theorem DrR.below {W w w' : World} {B g k : Nat} {bs : List UInt8} {e : TypeId} {sz n : Nat} {v : Value} {cs : List Value} (h : DrR W w B g k bs e sz v n cs) (hb : Below w.heap.size w w') : DrR W w' B g k bs e sz v n cs :=
  ⟨h.lt, h.src.below hb, own_below h.row hb, grown_below h.gr hb⟩
theorem DrR.more {W w : World} {B g k k' : Nat} {bs : List UInt8} {e : TypeId} {sz n : Nat} {v : Value} {cs : List Value} (h : DrR W w B g k bs e sz v n cs) (hk : k ≤ k') : DrR W w B g k' bs e sz v n cs :=
  ⟨h.lt, h.src.more hk, h.row, h.gr⟩
theorem grownBy_row {W w w' : World} {g : Nat} {ob : Option Nat} (h : W.grownBy w (some g)) (hg : w.grownBy w' ob) (ho : ∀ x, ob = some x → W.heap.size ≤ x) : W.grownBy w' (some g) :=
  ⟨hg.os.trans h.os, hg.tape.trans h.tape, hg.output.trans h.output, Nat.le_trans h.size hg.size, fun i hi hne => (hg.block i (Nat.lt_of_lt_of_le hi h.size) (fun e => by have := ho i e.symm; omega)).trans (h.block i hi hne)⟩
theorem DrR.app {W w w' : World} {B g k : Nat} {bs : List UInt8} {e : TypeId} {sz n n' : Nat} {v v' : Value} {cs cs' : List Value} (h : DrR W w B g k bs e sz v n cs) (hr : w'.ownsRow W.heap.size e sz v' n' cs') (hg : w.grownBy w' v.ownBlock) : DrR W w' B g k bs e sz v' n' cs' :=
  ⟨h.lt, h.src.grown hg (fun x hx => Nat.lt_of_lt_of_le h.lt (h.row.lt x hx).1), hr, grownBy_row h.gr hg (fun x hx => (h.row.lt x hx).1)⟩
theorem DrR.drewN {W w : World} {B g k : Nat} {bs : List UInt8} {e : TypeId} {sz n : Nat} {v : Value} {cs : List Value} (h : DrR W w B g k bs e sz v n cs) (m : Nat) : DrR W (w.drewN m) B g k bs e sz v n cs :=
  ⟨h.lt, h.src.drewN m, h.row.drewN m, grown_below h.gr (below_drewN (Below.refl _ _) m)⟩
theorem DrR.size {W w : World} {B g k : Nat} {bs : List UInt8} {e : TypeId} {sz n : Nat} {v : Value} {cs : List Value} (h : DrR W w B g k bs e sz v n cs) : W.heap.size ≤ w.heap.size := h.gr.size
theorem DrR.nil {W : World} {B g k : Nat} {bs : List UInt8} (h : SrcAt W B g k bs) (e : TypeId) (sz : Nat) : DrR W W B g k bs e sz (.slice none 0 0) 0 [] :=
  ⟨h.lt, h, ⟨by simp, .inl ⟨rfl, rfl⟩⟩, ⟨rfl, rfl, rfl, Nat.le_refl _, fun _ _ _ => rfl⟩⟩
theorem DrR.made {W : World} {B g k : Nat} {bs : List UInt8} (h : SrcAt W B g k bs) (e : TypeId) (sz : Nat) : DrR W (W.alloc (.cells #[] e)) B g k bs e sz (.slice (some ⟨W.heap.size, 0, none⟩) 0 0) 0 [] :=
  have hb := (Below.refl W.heap.size W).alloc (Nat.le_refl _) (.cells #[] e)
  ⟨h.lt, h.below hb, World.ownsRow_made (base := W.heap.size) (e := e) (size := sz) W #[] 0 (Nat.le_refl _) (by simp [maxLen]) (by simp), grown_of_below hb _⟩
/-- what a later call sees: the row's owner has gone on -/
theorem DrR.from {W W' w : World} {B g k : Nat} {bs : List UInt8} {e : TypeId} {sz n : Nat} {v : Value} {cs : List Value} (h : DrR W' w B g k bs e sz v n cs) (hg : W.grownBy W' (some g)) (hl : g < W.heap.size) : DrR W w B g k bs e sz v n cs :=
  ⟨hl, h.src, ownsRow_le h.row hg.size, grown_trans hg h.gr⟩

set_option maxRecDepth 100000 in
set_option maxHeartbeats 400000 in
theorem text_in (B g k b m : Nat) (l : List ByteArray) (bs : List UInt8) (w : World) (h : SrcAt w B g k bs) (hk : k < 4611686018427387800) (hm : l.length = m) (hm2 : 2 ≤ m) (hm3 : m ≤ 200) (hb : b ≠ g) (hbl : b < w.heap.size)
    (hc : ∀ i (hi : i < l.length), w.cell? ⟨b, i, none⟩ = some (.string l[i])) :
    Calls Tryd.prog 74 #[.pointer (some ⟨g, 0, none⟩), .slice (some ⟨b, 0, none⟩) m m] w fun e w' => ∃ z, z ∈ l ∧ e = .returned (.string z) ∧ SrcAt w' B g (k + 2) bs ∧ w.grownBy w' (some g) := by
  have H := Lib.hid h; clear h
  have Hc := Lib.hid hc; clear hc
  have hm4 : (m : Int) ≤ 200 := by omega
  go_enter Tryd.func74, Tryd.ntmps74
  go_wp2_with fail
  refine (pick_any B g k bs m _ H.out (by omega)).mono ?_; rintro e w1 ⟨x, rfl, ⟨hx0, hx1, _⟩, hs1, hg1⟩
  have Hs1 := Lib.hid hs1; clear hs1
  obtain ⟨i, rfl⟩ : ∃ i : Nat, x = i := ⟨x.toNat, by omega⟩
  have hx2 := hx1 (by omega)
  have hi : i < l.length := by omega
  have hcell := (World.cell?_of_block (a := ⟨b, i, none⟩) (hg1.block b hbl (fun e => hb (by injection e)))).trans (Hc.out i hi)
  have hmem := Lib.hid (List.getElem_mem hi)
  generalize l[i] = z at *
  clear hx1
  go_wp2_with fail
  go_ret
  exact ⟨z, hmem.out, rfl, Hs1.out, hg1⟩
theorem alloc_strs (w : World) (l : List ByteArray) (t : TypeId) : ∀ i (hi : i < l.length), (w.alloc (.cells (l.map Value.string).toArray t)).cell? ⟨w.heap.size, i, none⟩ = some (.string l[i]) := fun i hi => by
  have := new_cells w (l.map Value.string).toArray t i (.string l[i]) (by simp [hi])
  rwa [show (⟨w.heap.size, 0, none⟩ : Addr).add i = ⟨w.heap.size, i, none⟩ by unfold Addr.add; split <;> simp_all] at this
/-- .. from texts just laid out, in a region that draws its order -/
theorem text_new (B g k m : Nat) (l : List ByteArray) (bs : List UInt8) (w : World) (h : SrcAt w B g k bs) (hk : k < 4611686018427387800) (hm : l.length = m) (hm2 : 2 ≤ m) (hm3 : m ≤ 200) :
    Calls Tryd.prog 74 #[.pointer (some ⟨g, 0, none⟩), .slice (some ⟨w.heap.size, 0, none⟩) m m] (w.alloc (.cells (l.map Value.string).toArray 9)) fun e w' => ∃ z, z ∈ l ∧ e = .returned (.string z) ∧ SrcAt w' B g (k + 2) bs ∧ w.grownBy w' (some g) := by
  have hlt := h.lt
  refine (text_in B g k w.heap.size m l bs _ (h.below ((Below.refl w.heap.size w).alloc (Nat.le_refl _) _)) hk hm hm2 hm3 (by omega) (by simp) (alloc_strs w l _)).mono ?_
  rintro e w' ⟨z, h1, h2, h3, h4⟩
  exact ⟨z, h1, h2, h3, grown_from_alloc h4⟩
theorem text_newd (B g k m : Nat) (l : List ByteArray) (bs : List UInt8) (w : World) (h : SrcAt w B g k bs) (hk : k < 4611686018427387800) (hm : l.length = m) (hm2 : 2 ≤ m) (hm3 : m ≤ 200) :
    Calls Tryd.prog 74 #[.pointer (some ⟨g, 0, none⟩), .slice (some ⟨w.heap.size, 0, none⟩) m m] (w.alloc (.cells (l.map Value.string).toArray 9)).drew fun e w' => ∃ z, z ∈ l ∧ e = .returned (.string z) ∧ SrcAt w' B g (k + 2) bs ∧ w.grownBy w' (some g) := by
  have hlt := h.lt
  refine (text_in B g k w.heap.size m l bs _ (SrcAt.drew (h.below ((Below.refl w.heap.size w).alloc (Nat.le_refl _) _))) hk hm hm2 hm3 (by omega) (by simp) (fun i hi => alloc_strs w l 9 i hi)).mono ?_
  rintro e w' ⟨z, h1, h2, h3, h4⟩
  exact ⟨z, h1, h2, h3, grown_from_alloc (grown_undrew h4)⟩

theorem ne_some0 {s : ByteArray} (h : 0 < s.size) : s.toList.isEmpty = false := by
  rw [ByteArray.toList_eq, List.isEmpty_eq_false_iff]
  intro e
  have h1 : s.data.toList.length = s.size := by simp
  rw [e] at h1
  simp at h1; omega
theorem ne_none0 {s : ByteArray} (h : s.size = 0) : s.toList.isEmpty = true := by
  rw [ByteArray.toList_eq, List.isEmpty_iff]
  exact List.eq_nil_of_length_eq_zero (by simpa using h)
def spoilL : List ByteArray := [⟨#[32]⟩, ⟨#[48]⟩, ⟨#[45]⟩, ⟨#[120]⟩, ⟨#[49]⟩, ⟨#[57]⟩, ⟨#[46]⟩]
theorem spoilL_one : ∀ z ∈ spoilL, z.size = 1 := by decide
def RetSp (w : World) (B g k : Nat) (bs : List UInt8) (n : Nat) (e : Ending) (w' : World) : Prop := ∃ z : ByteArray, e = .returned (.string z) ∧ z.size ≤ n ∧ SrcAt w' B g k bs ∧ w.grownBy w' (some g)

set_option maxRecDepth 100000 in
set_option maxHeartbeats 1600000 in
theorem spoil_any (B g k : Nat) (bs : List UInt8) (t : ByteArray) (w : World) (h : SrcAt w B g k bs) (hk : k < 4611686018427380000) (ht : t.size ≤ 1073741824) :
    Calls Tryd.prog 73 #[.pointer (some ⟨g, 0, none⟩), .string t] w (RetSp w B g (k + 6) bs (t.size + 1)) := by
  have H := Lib.hid h; clear h
  go_enter Tryd.func73, Tryd.ntmps73
  go_wp2_with fail
  refine (pick_any B g k bs 5 _ H.out (by omega)).mono ?_; rintro e w1 ⟨x, rfl, ⟨hx0, hx1, _⟩, hs1, hg1⟩
  have Hs1 := Lib.hid hs1
  have Hg1 := Lib.hid hg1
  clear hs1 hg1 hx1 H
  by_cases e0 : x = 0
  · subst e0
    go_wp2_with fail
    refine (pick_any B g (k + 2) bs _ _ Hs1.out (by omega)).mono ?_; rintro e w2 ⟨y, rfl, ⟨hy0, hy1, hy2⟩, hs2, hg2⟩
    have Hs2 := Lib.hid hs2
    have Hg2 := Lib.hid (grown_trans Hg1.out hg2)
    obtain ⟨i, rfl⟩ : ∃ i : Nat, y = i := ⟨y.toNat, by omega⟩
    have hi : (i : Int) ≤ (t.size : Int) := by
      by_cases h1 : t.size = 0
      · have := hy2 (by omega); omega
      · have := hy1 (by omega); omega
    have hi2 : i ≤ t.size := by omega
    have hp1 : (t.extract 0 i).size = i := by rw [ByteArray.size_extract]; omega
    have hp2 : (t.extract i t.size).size = t.size - i := by rw [ByteArray.size_extract]; omega
    have Hp1 := Lib.hid hp1
    have Hp2 := Lib.hid hp2
    have hq1 : (t.extract 0 i).size ≤ 1073741824 := by omega
    have hq2 : (t.extract i t.size).size ≤ 1073741824 := by omega
    clear hs2 hg2 hy1 hy2 Hs1 Hg1 hp1 hp2
    go_wp2_with fail
    refine wp_region_noPanic ?_
    refine wp_region_L [] (fun _ => True) (by kernel_rfl) (trivial) (fun hHeld => ?_)
    refine take_F (i := 0) (d := some 16) (v := ?_) (by kernel_rfl) (by kernel_rfl) rfl rfl (by kernel_rfl) (by kernel_rfl) (by kernel_rfl) (fun _ _ _ h => h) (Or.inl ⟨by rfl, ?_⟩) (by assumption) ?_
    rotate_left
    · (intro w hSw; (try dsimp only at hSw); go_simp; (try rw [if_neg (by omega)]); (try (with_reducible rfl)))
    simp only [Act.put, List.setIfInBounds_toArray, List.set_cons_zero, List.set_cons_succ]
    refine take_F (i := 1) (d := some 17) (v := ?_) (by kernel_rfl) (by kernel_rfl) rfl rfl (by kernel_rfl) (by kernel_rfl) (by kernel_rfl) (fun _ _ _ h => h) (Or.inl ⟨by rfl, ?_⟩) (by assumption) ?_
    rotate_left
    · (intro w hSw; (try dsimp only at hSw); go_simp; (try rw [if_neg (by omega)]); (try (with_reducible rfl)))
    simp only [Act.put, List.setIfInBounds_toArray, List.set_cons_zero, List.set_cons_succ]
    refine take_F (i := 2) (d := some 18) (v := ?_) (by kernel_rfl) (by kernel_rfl) rfl rfl (by kernel_rfl) (by kernel_rfl) (by kernel_rfl) (fun _ _ _ h => h) (Or.inl ⟨by rfl, ?_⟩) (by assumption) ?_
    rotate_left
    · (intro w hSw; (try dsimp only at hSw); go_simp; (try rw [if_neg (by omega)]); (try (with_reducible rfl)))
    simp only [Act.put, List.setIfInBounds_toArray, List.set_cons_zero, List.set_cons_succ]
    refine take_F (i := 3) (d := some 19) (v := ?_) (by kernel_rfl) (by kernel_rfl) rfl rfl (by kernel_rfl) (by kernel_rfl) (by kernel_rfl) (fun _ _ _ h => h) (Or.inl ⟨by rfl, ?_⟩) (by assumption) ?_
    rotate_left
    · (intro w hSw; (try dsimp only at hSw); go_simp; (try rw [if_neg (by omega)]); (try (with_reducible rfl)))
    simp only [Act.put, List.setIfInBounds_toArray, List.set_cons_zero, List.set_cons_succ]
    refine take_F (i := 7) (d := some 23) (v := ?_) (by kernel_rfl) (by kernel_rfl) rfl rfl (by kernel_rfl) (by kernel_rfl) (by kernel_rfl) (fun _ _ _ h => h) (Or.inl ⟨by rfl, ?_⟩) (by assumption) ?_
    rotate_left
    · (intro w hSw; (try dsimp only at hSw); go_simp; (try rw [if_neg (by omega)]); (try (with_reducible rfl)))
    simp only [Act.put, List.setIfInBounds_toArray, List.set_cons_zero, List.set_cons_succ]
    refine take_F (i := 8) (d := some 24) (v := ?_) (by kernel_rfl) (by kernel_rfl) rfl rfl (by kernel_rfl) (by kernel_rfl) (by kernel_rfl) (fun _ _ _ h => h) (Or.inl ⟨by rfl, ?_⟩) (by assumption) ?_
    rotate_left
    · (intro w hSw; (try dsimp only at hSw); go_simp; (try rw [if_neg (by omega)]); (try (with_reducible rfl)))
    simp only [Act.put, List.setIfInBounds_toArray, List.set_cons_zero, List.set_cons_succ]
    refine take_F (i := 9) (d := some 25) (v := ?_) (by kernel_rfl) (by kernel_rfl) rfl rfl (by kernel_rfl) (by kernel_rfl) (by kernel_rfl) (fun _ _ _ h => h) (Or.inl ⟨by rfl, ?_⟩) (by assumption) ?_
    rotate_left
    · (intro w hSw; (try dsimp only at hSw); go_simp; (try rw [if_neg (by omega)]); (try (with_reducible rfl)))
    simp only [Act.put, List.setIfInBounds_toArray, List.set_cons_zero, List.set_cons_succ]
    refine call_L (i := 4) (d := (some 20)) rfl rfl (by kernel_rfl) (fun Kq hKq => ?_)
    go_simp
    refine hKq.out _ _ (trivial) (fun hHeld => ?_)
    clear hKq Kq
    (try simp only [Act.put, List.setIfInBounds_toArray, List.set_cons_zero, List.set_cons_succ])
    refine call_L (i := 5) (d := (some 21)) rfl rfl (by kernel_rfl) (fun Kq hKq => ?_)
    go_simp
    go_at_call 74
    refine (text_newd B g _ 7 spoilL bs w2 Hs2.out (by omega) rfl (by omega) (by omega)).mono ?_; rintro e w5 ⟨z, hz, rfl, hs5, hg5⟩
    have hz1 := spoilL_one z hz
    have Hz := Lib.hid hz1
    have hzl : z.size ≤ 1 := by omega
    have Hs5 := Lib.hid hs5
    have Hg5 := Lib.hid (grown_trans Hg2.out hg5)
    have hz3 : (t.extract 0 i ++ z).size ≤ 1073741825 := by rw [ByteArray.size_append]; omega
    clear hz hz1 hs5 hg5
    (try go_wp2_with fail)
    refine hKq.out _ _ (trivial) (fun hHeld => ?_)
    clear hKq Kq
    (try simp only [Act.put, List.setIfInBounds_toArray, List.set_cons_zero, List.set_cons_succ])
    refine take_F (i := 6) (d := some 22) (v := ?_) (by kernel_rfl) (by kernel_rfl) rfl rfl (by kernel_rfl) (by kernel_rfl) (by kernel_rfl) (fun _ _ _ h => h) (Or.inl ⟨by rfl, ?_⟩) (by assumption) ?_
    rotate_left
    · (intro w hSw; (try dsimp only at hSw); go_simp; (try rw [if_neg (by omega)]); (try (with_reducible rfl)))
    simp only [Act.put, List.setIfInBounds_toArray, List.set_cons_zero, List.set_cons_succ]
    refine take_F (i := 10) (d := some 26) (v := ?_) (by kernel_rfl) (by kernel_rfl) rfl rfl (by kernel_rfl) (by kernel_rfl) (by kernel_rfl) (fun _ _ _ h => h) (Or.inl ⟨by rfl, ?_⟩) (by assumption) ?_
    rotate_left
    · (intro w hSw; (try dsimp only at hSw); go_simp; (try rw [if_neg (by omega)]); (try (with_reducible rfl)))
    simp only [Act.put, List.setIfInBounds_toArray, List.set_cons_zero, List.set_cons_succ]
    refine take_F (i := 11) (d := some 1) (v := ?_) (by kernel_rfl) (by kernel_rfl) rfl rfl (by kernel_rfl) (by kernel_rfl) (by kernel_rfl) (fun _ _ _ h => h) (Or.inl ⟨by rfl, ?_⟩) (by assumption) ?_
    rotate_left
    · (intro w hSw; (try dsimp only at hSw); go_simp; (try rw [if_neg (by omega)]); (try (with_reducible rfl)))
    simp only [Act.put, List.setIfInBounds_toArray, List.set_cons_zero, List.set_cons_succ]
    refine done_L (by kernel_rfl) ?_ _
    refine NoPanic.normal ?_
    go_wp2_with fail
    go_ret
    exact ⟨_, rfl, by rw [ByteArray.size_append, ByteArray.size_append, Hp1.out, Hp2.out]; omega, Hs5.out.more (by omega), Hg5.out⟩
  · have hb0 : (x == 0) = false := by simpa using e0
    by_cases e1 : x = 1
    · subst e1
      by_cases ht0 : t.size = 0
      · have hn := ne_none0 ht0
        go_wp2_with fail
        go_ret
        exact ⟨t, rfl, by omega, Hs1.out.more (by omega), Hg1.out⟩
      · have hn := ne_some0 (s := t) (by omega)
        go_wp2_with fail
        refine (pick_any B g (k + 2) bs _ _ Hs1.out (by omega)).mono ?_; rintro e w2 ⟨y, rfl, ⟨hy0, hy1, hy2⟩, hs2, hg2⟩
        have Hs2 := Lib.hid hs2
        have Hg2 := Lib.hid (grown_trans Hg1.out hg2)
        obtain ⟨i, rfl⟩ : ∃ i : Nat, y = i := ⟨y.toNat, by omega⟩
        have hi : (i : Int) + 1 ≤ (t.size : Int) := by
          by_cases h1 : t.size = 1
          · have := hy2 (by omega); omega
          · have := hy1 (by omega); omega
        have hi3 : (i : Int) ≤ (t.size : Int) := by omega
        have hp1 : (t.extract 0 i).size = i := by rw [ByteArray.size_extract]; omega
        have hp2 : (t.extract (i + 1) t.size).size = t.size - (i + 1) := by rw [ByteArray.size_extract]; omega
        have Hp1 := Lib.hid hp1
        have Hp2 := Lib.hid hp2
        have hq1 : (t.extract 0 i).size ≤ 1073741824 := by omega
        have hq2 : (t.extract (i + 1) t.size).size ≤ 1073741824 := by omega
        have hw : IntKind.i64.wrap ((i : Int) + 1) = (i : Int) + 1 := IntWalk.i64_in _ (by omega)
        have hw0 : (0 : Int) ≤ (i : Int) + 1 := by omega
        have hw1 : ((i : Int) + 1).toNat = i + 1 := by omega
        clear hs2 hg2 hy1 hy2 Hs1 Hg1 hp1 hp2
        go_wp2_with fail
        go_quiet (fail)
        go_wp2_with fail
        go_ret
        exact ⟨_, rfl, by rw [ByteArray.size_append, Hp1.out, Hp2.out]; omega, SrcAt.drewN (Hs2.out.more (by omega)) _, grown_below Hg2.out (below_drewN (Below.refl _ _) _)⟩
    · have hb1 : (x == 1) = false := by simpa using e1
      go_wp2_with fail
      go_ret
      exact ⟨t, rfl, by omega, Hs1.out.more (by omega), Hg1.out⟩
end Go.Proofs.YtmeenihnhfhbkaaDoor
/- Fractions, part 8: what the law draws. -/
namespace Go.Proofs.YtmeenihnhfhbkaaDoor
open Go.RowKit Go.Joins

/-- a fraction under way: the result's block is fresh, the fraction lies in block q -/
structure FrN (W w : World) (B g k : Nat) (bs : List UInt8) (q : Nat) (x y : Value) : Prop where
  lt : g < W.heap.size
  src : SrcAt w B g k bs
  gr : W.grownBy w (some g)
  hr : w.heap[W.heap.size]? = some (.cells #[.int .i64 0, .int .i64 0] 25 (0, 0))
  hq : w.heap[q]? = some (.cells #[x, y] 25 (0, 0))
  rq : W.heap.size < q
theorem FrN.draw {W w w' : World} {B g k k' q : Nat} {bs : List UInt8} {x y : Value} (h : FrN W w B g k bs q x y) (hs : SrcAt w' B g k' bs) (hg : w.grownBy w' (some g)) : FrN W w' B g k' bs q x y :=
  have hq := blk_ltF h.hq
  ⟨h.lt, hs, grown_trans h.gr hg, (hg.block _ (by have := h.rq; omega) (fun e => by have := h.lt; injection e; omega)).trans h.hr, (hg.block q hq (fun e => by have := h.lt; have := h.rq; injection e; omega)).trans h.hq, h.rq⟩
theorem FrN.set {W w : World} {B g k q : Nat} {bs : List UInt8} {x y : Value} (h : FrN W w B g k bs q x y) (i : Nat) (u : Value) {cs : Array Value} (hc : (#[x, y] : Array Value).setIfInBounds i u = cs) {x' y' : Value} (he : cs = #[x', y']) : FrN W (w.setCell ⟨q, i, none⟩ u) B g k bs q x' y' := by
  have h1 := heap_setCell_same w q i _ _ u h.hq
  rw [hc, he] at h1
  have hg : w.grownBy (w.setCell ⟨q, i, none⟩ u) (some q) := grown_setCell (a := w) (p := ⟨q, i, none⟩) ⟨rfl, rfl, rfl, Nat.le_refl _, fun _ _ _ => rfl⟩ (.inl rfl) u
  exact ⟨h.lt, h.src.grown hg (fun x hx => by cases hx; exact Nat.lt_trans h.lt h.rq), grownBy_row h.gr hg (fun x hx => by cases hx; exact Nat.le_of_lt h.rq), (Below.heap_setCell _ _ _ _ (Nat.ne_of_lt h.rq)).trans h.hr, h1, h.rq⟩
abbrev put2 (w : World) (r : Nat) (a b : Value) : World := (w.setCell ⟨r, 0, none⟩ a).setCell ⟨r, 1, none⟩ b
theorem FrN.done {W w : World} {B g k q : Nat} {bs : List UInt8} {x y : Value} (h : FrN W w B g k bs q x y) (a b : Value) :
    ((put2 w W.heap.size a b).cell? ⟨W.heap.size, 0, none⟩ = some a ∧ (put2 w W.heap.size a b).cell? ⟨W.heap.size, 1, none⟩ = some b) ∧ SrcAt (put2 w W.heap.size a b) B g k bs ∧ W.grownBy (put2 w W.heap.size a b) (some g) := by
  have g2 := heap_setCell_same _ W.heap.size 1 _ _ b (heap_setCell_same w W.heap.size 0 _ _ a h.hr)
  have g0 : w.grownBy w (some W.heap.size) := ⟨rfl, rfl, rfl, Nat.le_refl _, fun _ _ _ => rfl⟩
  have hg : w.grownBy (put2 w W.heap.size a b) (some W.heap.size) := grown_setCell (grown_setCell g0 (p := ⟨W.heap.size, 0, none⟩) (.inl rfl) a) (p := ⟨W.heap.size, 1, none⟩) (.inl rfl) b
  obtain ⟨c0, c1, _, _⟩ := blk2 g2
  exact ⟨⟨c0, c1⟩, h.src.grown hg (fun x hx => by cases hx; exact h.lt), grownBy_row h.gr hg (fun x hx => by cases hx; exact Nat.le_refl _)⟩
def RetFr (w : World) (B g k : Nat) (bs : List UInt8) (e : Ending) (w' : World) : Prop := ∃ N D : Int, e = .returned (aggQ N D) ∧ SrcAt w' B g k bs ∧ w.grownBy w' (some g)
set_option maxRecDepth 100000 in
set_option maxHeartbeats 3200000 in
theorem drawFr_any (B g k : Nat) (bs : List UInt8) (w : World) (hs : SrcAt w B g k bs) (hk : k < 4611686018427380000) : Calls Tryd.prog 47 #[.pointer (some ⟨g, 0, none⟩)] w (RetFr w B g (k + 12) bs) := by
  have hlt := hs.lt
  have hb0 := (Below.refl w.heap.size w).alloc (Nat.le_refl _) (.cells #[.int .i64 0, .int .i64 0] 25)
  have H0 := Lib.hid (hs.below hb0)
  have Hr0 := Lib.hid (heap_alloc_new w (.cells #[.int .i64 0, .int .i64 0] 25))
  have Hg0 := Lib.hid (grown_of_below hb0 (some g))
  clear hs hb0
  go_enter Tryd.func47, Tryd.ntmps47
  go_wp2_with fail
  refine (pick_any B g k bs 200 _ H0.out (by omega)).mono ?_; rintro e w1 ⟨x, rfl, ⟨hx0, hx1, _⟩, hs1, hg1⟩
  have hx2 := hx1 (by omega)
  have hxw : IntKind.i64.wrap (x - 100) = x - 100 := IntWalk.i64_in _ (by omega)
  have Hs1 := Lib.hid hs1
  have Hg1 := Lib.hid (grown_trans Hg0.out hg1)
  have Hr1 := Lib.hid ((hg1.block w.heap.size (by simp) (fun e => by injection e; omega)).trans Hr0.out)
  have hz1 : w.heap.size < w1.heap.size := blk_ltF Hr1.out
  clear hs1 hg1 hx1 H0 Hr0 Hg0
  go_wp2_with fail
  refine (pick_any B g _ bs 30 w1 Hs1.out (by omega)).mono ?_; rintro e w2 ⟨y, rfl, ⟨hy0, hy1, _⟩, hs2, hg2⟩
  have hy2 := hy1 (by omega)
  obtain ⟨d, hd⟩ : ∃ d : Nat, 1 + y = (d : Int) := ⟨(1 + y).toNat, by omega⟩
  have hyw : IntKind.i64.wrap (1 + y) = (d : Int) := by rw [hd]; exact IntWalk.i64_in _ (by omega)
  have HM := Lib.hid (fun wx => l19Make_any (x - 100) d wx (by omega) (by omega) (by omega))
  unfold RetQ at HM
  have Hs2 := Lib.hid hs2
  have Hg2 := Lib.hid (grown_trans Hg1.out hg2)
  have Hr2 := Lib.hid ((hg2.block w.heap.size hz1 (fun e => by injection e; omega)).trans Hr1.out)
  have hz2 : w.heap.size < w2.heap.size := blk_ltF Hr2.out
  clear hs2 hg2 hy1 Hs1 Hg1 Hr1
  generalize lowN (x - 100) d = N at *
  generalize lowD (x - 100) d = D at *
  go_wp2_with fail
  refine (HM.out _).mono ?_; rintro e w3 ⟨rfl, hb3⟩
  have hbw := (Below.refl w3.heap.size w3).alloc (Nat.le_refl _) (.cells #[.int .i64 N, .int .i64 (D : Int)] 25)
  have hr3 := (hb3.block w.heap.size hz2).trans Hr2.out
  have hz3 : w.heap.size < w3.heap.size := blk_ltF hr3
  have HN := Lib.hid (show FrN w (w3.alloc (.cells #[.int .i64 N, .int .i64 (D : Int)] 25)) B g (k + 2 + 2) bs w3.heap.size (.int .i64 N) (.int .i64 (D : Int)) from
    ⟨hlt, (Hs2.out.below hb3).below hbw, grown_below (grown_below Hg2.out hb3) hbw, (hbw.block _ hz3).trans hr3, heap_alloc_new w3 _, hz3⟩)
  clear hb3 hbw hr3 Hs2 Hr2 Hg2
  go_upto_region 2 with (fail)
  generalize hq : w3.heap.size = q at *
  generalize w3.alloc (.cells #[.int .i64 N, .int .i64 (D : Int)] 25) = w4 at *
  clear hq hz1 hz2
  go_wp2_with fail
  refine (pick_any B g _ bs 20 w4 HN.out.src (by omega)).mono ?_; rintro e w5 ⟨z, rfl, _, hs5, hg5⟩
  have HN5 := Lib.hid (HN.out.draw hs5 hg5)
  clear HN hs5 hg5
  have HN := HN5
  clear HN5
  by_cases e0 : z = 0
  · subst e0
    go_wp2_with fail
    refine (among_in B g _ 7 [-1, 0, 2, 4, 1000000000000, 1000000000001, -9223372036854775808] bs w5 HN.out.src (by omega) rfl (by omega) (by omega)).mono ?_; rintro e w6 ⟨u, _, rfl, hs6, hg6⟩
    have HN6 := Lib.hid (HN.out.draw hs6 hg6)
    clear HN hs6 hg6
    obtain ⟨_, _, _, f1⟩ := blk2 HN6.out.hq
    obtain ⟨_, c1, _, _⟩ := blk2 HN6.out.hq
    have HN := Lib.hid (HN6.out.set 1 (.int .i64 u) rfl rfl)
    go_upto_region 9 with (fail)
    generalize w6.setCell ⟨q, 1, none⟩ (.int .i64 u) = w7 at *
    clear HN6 f1 c1
    obtain ⟨c0, c1, _, _⟩ := blk2 HN.out.hq
    obtain ⟨r0, r1, r2, r3⟩ := blk2 HN.out.hr
    have HD := Lib.hid (HN.out.done (.int .i64 N) (.int .i64 u))
    go_wp2_with fail
    obtain ⟨⟨k0, k1⟩, hsz, hgz⟩ := HD.out
    refine bodyPost_ret (v := aggQ N u) (by simp [results, Tryd.results47, go_sem, k0, k1]) rfl ?_
    exact ⟨_, _, rfl, hsz.more (by omega), hgz⟩
  have n0 : (z == 0) = false := by simpa using e0
  by_cases e1 : z = 1
  · subst e1
    go_wp2_with fail
    refine (among_in B g _ 4 [-1000000000001, 1000001, 999983, -9223372036854775808] bs w5 HN.out.src (by omega) rfl (by omega) (by omega)).mono ?_; rintro e w6 ⟨u, _, rfl, hs6, hg6⟩
    have HN6 := Lib.hid (HN.out.draw hs6 hg6)
    clear HN hs6 hg6
    obtain ⟨c0, _, f0, _⟩ := blk2 HN6.out.hq
    have HN := Lib.hid (HN6.out.set 0 (.int .i64 u) rfl rfl)
    go_upto_region 9 with (fail)
    generalize w6.setCell ⟨q, 0, none⟩ (.int .i64 u) = w7 at *
    clear HN6 f0 c0
    obtain ⟨c0, c1, _, _⟩ := blk2 HN.out.hq
    obtain ⟨r0, r1, r2, r3⟩ := blk2 HN.out.hr
    have HD := Lib.hid (HN.out.done (.int .i64 u) (.int .i64 (D : Int)))
    go_wp2_with fail
    obtain ⟨⟨k0, k1⟩, hsz, hgz⟩ := HD.out
    refine bodyPost_ret (v := aggQ u (D : Int)) (by simp [results, Tryd.results47, go_sem, k0, k1]) rfl ?_
    exact ⟨_, _, rfl, hsz.more (by omega), hgz⟩
  have n1 : (z == 1) = false := by simpa using e1
  by_cases e2 : z = 2
  · subst e2
    go_wp2_with fail
    refine (among_in B g _ 2 [1, 999999] bs w5 HN.out.src (by omega) rfl (by omega) (by omega)).mono ?_; rintro e w6 ⟨u, _, rfl, hs6, hg6⟩
    have HN6 := Lib.hid (HN.out.draw hs6 hg6)
    clear HN hs6 hg6
    go_wp2_with fail
    refine (among_in B g _ 3 [1000000, 999983, 999979] bs w6 HN6.out.src (by omega) rfl (by omega) (by omega)).mono ?_; rintro e w7 ⟨v, _, rfl, hs7, hg7⟩
    have HN7 := Lib.hid (HN6.out.draw hs7 hg7)
    clear HN6 hs7 hg7
    obtain ⟨c0, c1, f0, f1⟩ := blk2 HN7.out.hq
    have HN8 := Lib.hid (HN7.out.set 0 (.int .i64 u) rfl rfl)
    have HN := Lib.hid (HN8.out.set 1 (.int .i64 v) rfl rfl)
    go_upto_region 9 with (fail)
    generalize (w7.setCell ⟨q, 0, none⟩ (.int .i64 u)).setCell ⟨q, 1, none⟩ (.int .i64 v) = w8 at *
    clear HN7 HN8 c0 c1 f0 f1
    obtain ⟨c0, c1, _, _⟩ := blk2 HN.out.hq
    obtain ⟨r0, r1, r2, r3⟩ := blk2 HN.out.hr
    have HD := Lib.hid (HN.out.done (.int .i64 u) (.int .i64 v))
    go_wp2_with fail
    obtain ⟨⟨k0, k1⟩, hsz, hgz⟩ := HD.out
    refine bodyPost_ret (v := aggQ u v) (by simp [results, Tryd.results47, go_sem, k0, k1]) rfl ?_
    exact ⟨_, _, rfl, hsz.more (by omega), hgz⟩
  have n2 : (z == 2) = false := by simpa using e2
  obtain ⟨c0, c1, _, _⟩ := blk2 HN.out.hq
  obtain ⟨r0, r1, r2, r3⟩ := blk2 HN.out.hr
  have HD := Lib.hid (HN.out.done (.int .i64 N) (.int .i64 (D : Int)))
  go_wp2_with fail
  obtain ⟨⟨k0, k1⟩, hsz, hgz⟩ := HD.out
  refine bodyPost_ret (v := aggQ N (D : Int)) (by simp [results, Tryd.results47, go_sem, k0, k1]) rfl ?_
  exact ⟨_, _, rfl, hsz.more (by omega), hgz⟩
theorem tabQ_more (n : Nat) (a b : Nat → Int) (x y : Int) : ∃ a' b', tabQ (n + 1) a' b' = tabQ n a b ++ [.int .i64 x, .int .i64 y] := ⟨fun i => if i < n then a i else x, fun i => if i < n then b i else y, by
  rw [tabQ_succ, if_neg (by omega), if_neg (by omega)]
  congr 1
  exact tabQ_congr fun i hi => ⟨by rw [if_pos hi], by rw [if_pos hi]⟩⟩
def RetFL (w : World) (B g k : Nat) (bs : List UInt8) (e : Ending) (w' : World) : Prop := ∃ v n a b, e = .returned v ∧ n ≤ 5 ∧ w'.ownsRow w.heap.size 25 2 v n (tabQ n a b) ∧ SrcAt w' B g k bs ∧ w.grownBy w' (some g)
set_option maxRecDepth 100000 in
set_option maxHeartbeats 1600000 in
theorem drawFL_any (B g k : Nat) (bs : List UInt8) (w : World) (hs : SrcAt w B g k bs) (hk : k < 4611686018427370000) : Calls Tryd.prog 61 #[.pointer (some ⟨g, 0, none⟩)] w (RetFL w B g (k + 80) bs) := by
  have HM := Lib.hid (DrR.made hs 25 2)
  clear hs
  go_enter Tryd.func61, Tryd.ntmps61
  go_wp2_with fail
  refine (pick_any B g k bs 6 _ HM.out.src (by omega)).mono ?_; rintro e w1 ⟨r, rfl, ⟨hr0, hr1, _⟩, hs1, hg1⟩
  have hr6 := hr1 (by omega)
  have HD1 := Lib.hid (HM.out.draw hs1 hg1)
  obtain ⟨m, rfl⟩ : ∃ m : Nat, r = (m : Int) := ⟨r.toNat, by omega⟩
  clear hs1 hg1 hr1 HM hr0
  go_wp2_with fail
  go_loopw [3, 4] (fun a i wr => ∃ (j q : Nat) (x y : Nat → Int), j + q = m ∧ i = .int .i64 (q : Int) ∧ DrR w wr B g (k + 2 + 12 * j) bs 25 2 a j (tabQ j x y)) (fun _ i _ => (intOf i).toNat)
  case atStart => exact ⟨0, m, fun _ => 0, fun _ => 0, by omega, rfl, HD1.out⟩
  case round =>
    obtain ⟨j, q, x, y, hjq, rfl, hd⟩ := hrel
    have hjm : j ≤ 5 := by omega
    obtain ⟨A3, c3, rfl⟩ := own_sl hd.row
    have HD := Lib.hid hd
    have Hjq := Lib.hid hjq
    clear hd
    by_cases hq : q = 0
    · subst hq
      go_wp2_with fail
      go_ret
      exact ⟨_, j, x, y, rfl, hjm, HD.out.row, HD.out.src.more (by omega), HD.out.gr⟩
    · have hq' : (0 : Int) < (q : Int) := by omega
      have hq9 : (q : Int) ≤ 5 := by omega
      go_wp2_with fail
      refine (drawFr_any B g _ bs _ HD.out.src (by omega)).mono ?_; rintro e w2 ⟨N, D, rfl, hs2, hg2⟩
      have HD2 := Lib.hid (HD.out.draw hs2 hg2)
      obtain ⟨x', y', hxy⟩ := tabQ_more j x y N D
      have Hxy := Lib.hid hxy
      have hz2 := HD2.out.size
      clear hs2 hg2 hxy HD hjq
      go_wp2_with (at_builtin; refine wpList_apd 33 25 _ 2 16 Tryd.underlying33 infoQ rfl (by omega) _ _ rfl rfl w.heap.size _ j _ rfl HD2.out.row #[.int .i64 N, .int .i64 D] 1 1 rfl rfl (by simp [Value.oneCell']) (by simp [maxLen]; omega) (by omega) hz2 ?_; intro v8 w8 hown8 hg8; have HD8 := Lib.hid (HD2.out.app hown8 hg8); obtain ⟨A8, c8, rfl⟩ := own_sl hown8; clear hown8 hg8)
      go_roundw
      case rel => exact ⟨j + 1, q - 1, x', y', by have := Hjq.out; omega, by congr 1; omega, by rw [Hxy.out]; exact HD8.out⟩
      case measure => simp [intOf]; omega
def RetDF (w : World) (e : Ending) (w' : World) : Prop := ∃ N D : Int, e = .returned (aggQ N D) ∧ Below w.heap.size w w'
def RetDFL (w : World) (e : Ending) (w' : World) : Prop := ∃ v n a b, e = .returned v ∧ n ≤ 5 ∧ w'.ownsRow w.heap.size 25 2 v n (tabQ n a b) ∧ Below w.heap.size w w'
def RetDFN (w : World) (e : Ending) (w' : World) : Prop := ∃ v n a b x, e = .returned (.tuple #[v, .int .i64 x]) ∧ n ≤ 5 ∧ w'.ownsRow w.heap.size 25 2 v n (tabQ n a b) ∧ Below w.heap.size w w'
def RetDF2 (w : World) (e : Ending) (w' : World) : Prop := ∃ a b c d : Int, e = .returned (.tuple #[aggQ a b, aggQ c d]) ∧ Below w.heap.size w w'
def RetDS (M : Nat) (w : World) (e : Ending) (w' : World) : Prop := ∃ s : ByteArray, e = .returned (.string s) ∧ s.size ≤ M ∧ Below w.heap.size w w'
set_option maxRecDepth 100000 in
set_option maxHeartbeats 3200000 in
theorem DrawPlainFraction_a (B : Nat) (cv : Value) (bs : List UInt8) (w : World) (h : Rd w B cv bs.length 1 (bs.map byV)) (hB : B ≤ w.heap.size) : Calls Tryd.prog 9 #[cv] w (RetD2 w) := by
  have HF := Lib.hid (fun wx hx hz => l00From_any B cv bs wx hx hz)
  have HC := Lib.hid h
  obtain ⟨A, c, rfl⟩ := rd_sl h
  clear h
  go_enter Tryd.func9, Tryd.ntmps9
  go_wp2_with fail
  refine (HF.out w HC.out hB).mono ?_; rintro e w1 ⟨rfl, hs1, hb1, hlt⟩
  have Hs1 := Lib.hid hs1
  have Hb1 := Lib.hid hb1
  clear hs1 hb1
  go_wp2_with fail
  refine (l17DrawValue_c B w.heap.size 0 bs _ Hs1.out (by omega)).mono ?_; rintro e w2 ⟨x, rfl, _, hs2, hg2⟩
  have Hs2 := Lib.hid hs2
  have Hb2 := Lib.hid (below_src Hb1.out hg2)
  clear hs2 hg2
  go_wp2_with fail
  refine (one_any B w.heap.size _ bs 10 _ Hs2.out (by omega)).mono ?_; rintro e w3 ⟨b, rfl, hs3, hg3⟩
  have Hs3 := Lib.hid hs3
  have Hb3 := Lib.hid (below_src Hb2.out hg3)
  clear hs3 hg3
  cases b with
  | true =>
    go_wp2_with fail
    refine (among_in B w.heap.size _ 4 [0, -1000000000000, 1000000000000, -9223372036854775808] bs w3 Hs3.out (by omega) rfl (by omega) (by omega)).mono ?_; rintro e w4 ⟨y, _, rfl, hs4, hg4⟩
    have Hb4 := Lib.hid (below_src Hb3.out hg4)
    clear hs4 hg4
    go_wp2_with fail
    go_ret2
    exact ⟨x, y, rfl, Hb4.out⟩
  | false =>
    go_wp2_with fail
    refine (pick_any B w.heap.size _ bs 60 _ Hs3.out (by omega)).mono ?_; rintro e w4 ⟨y, rfl, _, hs4, hg4⟩
    have Hb4 := Lib.hid (below_src Hb3.out hg4)
    clear hs4 hg4
    go_wp2_with fail
    go_ret2
    exact ⟨x, _, rfl, Hb4.out⟩
set_option maxRecDepth 100000 in
set_option maxHeartbeats 3200000 in
theorem DrawCommonDen_a (B : Nat) (cv : Value) (bs : List UInt8) (w : World) (h : Rd w B cv bs.length 1 (bs.map byV)) (hB : B ≤ w.heap.size) : Calls Tryd.prog 15 #[cv] w (RetDFL w) := by
  have HF := Lib.hid (fun wx hx hz => l00From_any B cv bs wx hx hz)
  have HC := Lib.hid h
  obtain ⟨A, c, rfl⟩ := rd_sl h
  clear h
  go_enter Tryd.func15, Tryd.ntmps15
  go_wp2_with fail
  refine (HF.out w HC.out hB).mono ?_; rintro e w1 ⟨rfl, hs1, hb1, hlt⟩
  have Hs1 := Lib.hid hs1
  have Hb1 := Lib.hid hb1
  clear hs1 hb1
  go_wp2_with fail
  refine (drawFL_any B w.heap.size 0 bs _ Hs1.out (by omega)).mono ?_; rintro e w2 ⟨v, n, a, b, rfl, hn, ho2, hs2, hg2⟩
  obtain ⟨A2, c2, rfl⟩ := own_sl ho2
  have Ho2 := Lib.hid (ownsRow_le ho2 (Nat.le_of_lt hlt))
  have Hb2 := Lib.hid (below_src Hb1.out hg2)
  clear hs2 hg2 ho2
  go_wp2_with fail
  go_ret
  exact ⟨_, n, a, b, rfl, hn, Ho2.out, Hb2.out⟩
set_option maxRecDepth 100000 in
set_option maxHeartbeats 3200000 in
theorem DrawWholeTable_a (B : Nat) (cv : Value) (bs : List UInt8) (w : World) (h : Rd w B cv bs.length 1 (bs.map byV)) (hB : B ≤ w.heap.size) : Calls Tryd.prog 12 #[cv] w (RetDFN w) := by
  have HF := Lib.hid (fun wx hx hz => l00From_any B cv bs wx hx hz)
  have HC := Lib.hid h
  obtain ⟨A, c, rfl⟩ := rd_sl h
  clear h
  go_enter Tryd.func12, Tryd.ntmps12
  go_wp2_with fail
  refine (HF.out w HC.out hB).mono ?_; rintro e w1 ⟨rfl, hs1, hb1, hlt⟩
  have Hs1 := Lib.hid hs1
  have Hb1 := Lib.hid hb1
  clear hs1 hb1
  go_wp2_with fail
  refine (drawFL_any B w.heap.size 0 bs _ Hs1.out (by omega)).mono ?_; rintro e w2 ⟨v, n, a, b, rfl, hn, ho2, hs2, hg2⟩
  obtain ⟨A2, c2, rfl⟩ := own_sl ho2
  have Hs2 := Lib.hid hs2
  have Ho2 := Lib.hid ho2
  have Hb2 := Lib.hid (below_src Hb1.out hg2)
  clear hs2 hg2 ho2
  go_wp2_with fail
  refine (one_any B w.heap.size _ bs 3 _ Hs2.out (by omega)).mono ?_; rintro e w3 ⟨b3, rfl, hs3, hg3⟩
  have Hs3 := Lib.hid hs3
  have Hb3 := Lib.hid (below_src Hb2.out hg3)
  have Ho3 := Lib.hid (own_gs Ho2.out hg3 hlt)
  clear hs3 hg3
  cases b3 with
  | true =>
    go_wp2_with fail
    refine (among_in B w.heap.size _ 5 [0, 1, 60, 1000000000000, 1000000000001] bs w3 Hs3.out (by omega) rfl (by omega) (by omega)).mono ?_; rintro e w4 ⟨y, _, rfl, hs4, hg4⟩
    have Hb4 := Lib.hid (below_src Hb3.out hg4)
    have Ho4 := Lib.hid (own_gs Ho3.out hg4 hlt)
    clear hs4 hg4
    go_wp2_with fail
    go_ret2
    exact ⟨_, n, a, b, y, rfl, hn, ownsRow_le Ho4.out (Nat.le_of_lt hlt), Hb4.out⟩
  | false =>
    have HLi := Lib.hid (l19List_any w3.heap.size (.slice A2 n c2) n a b w3 (Rd.of_own Ho3.out) (Nat.le_refl _) (by omega))
    go_wp2_with fail
    refine (HLi.out).mono ?_; rintro e w4 ⟨rfl, hb4⟩
    have Hs4 := Lib.hid (Hs3.out.below hb4)
    have Hb4 := Lib.hid (Hb3.out.trans (hb4.mono Hb3.out.size))
    have Ho4 := Lib.hid (own_below Ho3.out hb4)
    clear hb4
    cases hp : okL n a b with
    | false =>
      clear hp
      go_wp2_with fail
      go_ret2
      exact ⟨_, n, a, b, 60, rfl, hn, ownsRow_le Ho4.out (Nat.le_of_lt hlt), Hb4.out⟩
    | true =>
      have HCm := Lib.hid (l19Common_any w4.heap.size (.slice A2 n c2) n a b w4 (Rd.of_own Ho4.out) (Nat.le_refl _) (by omega) hp)
      have HMn := Lib.hid (fun wx => l00Min_c 1000000000000 (comV n b) wx)
      clear hp
      generalize comV n b = cv at *
      generalize min 1000000000000 cv = mv at *
      go_wp2_with fail
      refine (HCm.out).mono ?_; rintro e w5 ⟨rfl, hb5⟩
      have Hs5 := Lib.hid (Hs4.out.below hb5)
      have Hb5 := Lib.hid (Hb4.out.trans (hb5.mono Hb4.out.size))
      have Ho5 := Lib.hid (own_below Ho4.out hb5)
      clear hb5
      go_wp2_with fail
      refine (HMn.out _).mono ?_; rintro e w1 ⟨rfl, rfl⟩
      go_wp2_with fail
      refine (pick_any B w.heap.size _ bs 2 _ Hs5.out (by omega)).mono ?_; rintro e w6 ⟨p, rfl, _, hs6, hg6⟩
      have Hs6 := Lib.hid hs6
      have Hb6 := Lib.hid (below_src Hb5.out hg6)
      have Ho6 := Lib.hid (own_gs Ho5.out hg6 hlt)
      clear hs6 hg6
      go_wp2_with fail
      refine (pick_any B w.heap.size _ bs 3 _ Hs6.out (by omega)).mono ?_; rintro e w7 ⟨q, rfl, _, hs7, hg7⟩
      have Hb7 := Lib.hid (below_src Hb6.out hg7)
      have Ho7 := Lib.hid (own_gs Ho6.out hg7 hlt)
      clear hs7 hg7
      go_wp2_with fail
      go_ret2
      exact ⟨_, n, a, b, _, rfl, hn, ownsRow_le Ho7.out (Nat.le_of_lt hlt), Hb7.out⟩
set_option maxRecDepth 100000 in
set_option maxHeartbeats 3200000 in
theorem DrawFractionText_a (B : Nat) (cv : Value) (bs : List UInt8) (w : World) (h : Rd w B cv bs.length 1 (bs.map byV)) (hB : B ≤ w.heap.size) : Calls Tryd.prog 18 #[cv] w (RetDF w) := by
  have HF := Lib.hid (fun wx hx hz => l00From_any B cv bs wx hx hz)
  have HC := Lib.hid h
  obtain ⟨A, c, rfl⟩ := rd_sl h
  clear h
  have hbr := (Below.refl w.heap.size w).alloc (Nat.le_refl _) (.cells #[.int .i64 0, .int .i64 0] 25)
  have HR := Lib.hid (show FrB w (w.alloc (.cells #[.int .i64 0, .int .i64 0] 25)) w.heap.size (.int .i64 0) (.int .i64 0) from FrB.new (Below.refl _ _) _ _)
  have HFr := Lib.hid (HF.out _ (HC.out.below (hbr.mono hB)) (Nat.le_trans hB hbr.size))
  have hsz : w.heap.size < (w.alloc (.cells #[.int .i64 0, .int .i64 0] 25)).heap.size := by simp
  clear hbr
  go_enter Tryd.func18, Tryd.ntmps18
  go_upto_region 1 with (fail)
  generalize w.alloc (.cells #[.int .i64 0, .int .i64 0] 25) = wa at *
  go_wp2_with fail
  refine HFr.out.mono ?_; rintro e w1 ⟨rfl, hs1, hb1, hlt⟩
  have HR1 := Lib.hid (HR.out.below hb1)
  have Hs1 := Lib.hid hs1
  clear hs1 hb1 HR
  go_wp2_with fail
  refine (drawFr_any B _ 0 bs _ Hs1.out (by omega)).mono ?_; rintro e w2 ⟨N, D, rfl, hs2, hg2⟩
  have HR2 := Lib.hid (show FrB w w2 w.heap.size (.int .i64 0) (.int .i64 0) from ⟨(hg2.block _ (blk_ltF HR1.out.res) (fun e => by injection e; omega)).trans HR1.out.res, HR1.out.bel.grown hg2 HR1.out.bel.size (fun k hk => by cases hk; omega), HR1.out.lr⟩)
  have HF := Lib.hid (HR2.out.put (.int .i64 N) (.int .i64 D))
  clear hs2 hg2
  obtain ⟨r0, r1, r2, r3⟩ := blk2 HR2.out.res
  obtain ⟨k0, k1, _, _⟩ := blk2 HF.out.res
  go_wp2_with fail
  exact bodyPost_ret (v := aggQ N D) (by simp [results, Tryd.results18, go_sem, k0, k1]) rfl ⟨N, D, rfl, HF.out.bel⟩
def rfL : List ByteArray := [⟨#[50, 47, 52]⟩, ⟨#[49, 47, 49]⟩, ⟨#[49, 47, 48]⟩, ⟨#[48, 47, 50]⟩, ⟨#[49, 47, 45, 50]⟩, ⟨#[47, 50]⟩, ⟨#[49, 47, 50, 47, 51]⟩, ⟨#[45, 48]⟩]
theorem rfL_sz : ∀ z ∈ rfL, z.size ≤ 5 := by decide
set_option maxRecDepth 100000 in
set_option maxHeartbeats 3200000 in
theorem DrawReadFraction_a (B : Nat) (cv : Value) (bs : List UInt8) (w : World) (h : Rd w B cv bs.length 1 (bs.map byV)) (hB : B ≤ w.heap.size) : Calls Tryd.prog 21 #[cv] w (RetDS 50 w) := by
  have HF := Lib.hid (fun wx hx hz => l00From_any B cv bs wx hx hz)
  have HC := Lib.hid h
  obtain ⟨A, c, rfl⟩ := rd_sl h
  clear h
  go_enter Tryd.func21, Tryd.ntmps21
  go_wp2_with fail
  refine (HF.out w HC.out hB).mono ?_; rintro e w1 ⟨rfl, hs1, hb1, hlt⟩
  have Hs1 := Lib.hid hs1
  have Hb1 := Lib.hid hb1
  clear hs1 hb1
  go_wp2_with fail
  refine (pick_any B w.heap.size 0 bs 200 _ Hs1.out (by omega)).mono ?_; rintro e w2 ⟨x, rfl, ⟨hx0, hx1, _⟩, hs2, hg2⟩
  have hx2 := hx1 (by omega)
  have hxw : IntKind.i64.wrap (x - 100) = x - 100 := IntWalk.i64_in _ (by omega)
  have Hs2 := Lib.hid hs2
  have Hb2 := Lib.hid (below_src Hb1.out hg2)
  clear hs2 hg2 hx1
  go_wp2_with fail
  refine (pick_any B w.heap.size _ bs 20 _ Hs2.out (by omega)).mono ?_; rintro e w3 ⟨y, rfl, ⟨hy0, hy1, _⟩, hs3, hg3⟩
  have hy2 := hy1 (by omega)
  obtain ⟨d, hd⟩ : ∃ d : Nat, 1 + y = (d : Int) := ⟨(1 + y).toNat, by omega⟩
  have hyw : IntKind.i64.wrap (1 + y) = (d : Int) := by rw [hd]; exact IntWalk.i64_in _ (by omega)
  have HM := Lib.hid (fun wx => l19Make_any (x - 100) d wx (by omega) (by omega) (by omega))
  unfold RetQ at HM
  have l1 := low_bd (x - 100) d
  have l2 := low_le (N := x - 100) (D := d) (by omega)
  have HT := Lib.hid (fun wx => l19Text_any (lowN (x - 100) d) (lowD (x - 100) d) wx (by omega) (by omega) (by omega) (by omega))
  have hts := textQ_size (lowN (x - 100) d) (lowD (x - 100) d) (by omega) (by omega) (by omega) (by omega)
  generalize lowN (x - 100) d = N at *
  generalize lowD (x - 100) d = D at *
  generalize textQ N D = t at *
  have Hs3 := Lib.hid hs3
  have Hb3 := Lib.hid (below_src Hb2.out hg3)
  clear hs3 hg3 hy1 l1 l2
  go_wp2_with fail
  refine (HM.out _).mono ?_; rintro e w4 ⟨rfl, hb4⟩
  have Hs4 := Lib.hid (Hs3.out.below hb4)
  have Hb4 := Lib.hid (Hb3.out.trans (hb4.mono Hb3.out.size))
  clear hb4
  go_wp2_with fail
  refine (HT.out _).mono ?_; rintro e w5 ⟨rfl, hb5⟩
  have Hs5 := Lib.hid (Hs4.out.below hb5)
  have Hb5 := Lib.hid (Hb4.out.trans (hb5.mono Hb4.out.size))
  clear hb5
  go_wp2_with fail
  refine (one_any B w.heap.size _ bs 3 _ Hs5.out (by omega)).mono ?_; rintro e w6 ⟨b6, rfl, hs6, hg6⟩
  have Hs6 := Lib.hid hs6
  have Hb6 := Lib.hid (below_src Hb5.out hg6)
  clear hs6 hg6
  cases b6 with
  | true =>
    go_wp2_with fail
    refine (spoil_any B w.heap.size _ bs t _ Hs6.out (by omega) (by omega)).mono ?_; rintro e w7 ⟨z, rfl, hz, hs7, hg7⟩
    have Hb7 := Lib.hid (below_src Hb6.out hg7)
    clear hs7 hg7
    go_wp2_with fail
    go_ret
    exact ⟨z, rfl, by omega, Hb7.out⟩
  | false =>
    go_wp2_with fail
    refine (one_any B w.heap.size _ bs 8 _ Hs6.out (by omega)).mono ?_; rintro e w7 ⟨b7, rfl, hs7, hg7⟩
    have Hs7 := Lib.hid hs7
    have Hb7 := Lib.hid (below_src Hb6.out hg7)
    clear hs7 hg7
    cases b7 with
    | false =>
      go_wp2_with fail
      go_ret
      exact ⟨t, rfl, by omega, Hb7.out⟩
    | true =>
      go_wp2_with fail
      refine (text_new B w.heap.size _ 8 rfL bs w7 Hs7.out (by omega) rfl (by omega) (by omega)).mono ?_; rintro e w8 ⟨z, hz, rfl, hs8, hg8⟩
      have hz5 := rfL_sz z hz
      have Hb8 := Lib.hid (below_src Hb7.out hg8)
      clear hs8 hg8 hz
      go_wp2_with fail
      go_ret
      exact ⟨z, rfl, by omega, Hb8.out⟩
end Go.Proofs.YtmeenihnhfhbkaaDoor
/- Fractions, part 9: DrawAddFractions. -/
namespace Go.Proofs.YtmeenihnhfhbkaaDoor
open Go.RowKit Go.Joins

theorem FrB.draw {W wr wx : World} {r g : Nat} {x y : Value} (h : FrB W wr r x y) (hg : wr.grownBy wx (some g)) (hne : r ≠ g) (hgW : W.heap.size ≤ g) : FrB W wx r x y :=
  ⟨(hg.block _ (blk_ltF h.res) (fun e => hne (by injection e))).trans h.res, h.bel.grown hg h.bel.size (fun k hk => by cases hk; exact hgW), h.lr⟩
theorem FrB.othr' {W wr : World} {r r2 : Nat} {x y : Value} (h : FrB W wr r x y) (hr : r2 ≠ r) (a b : Value) (hl : W.heap.size ≤ r2) : FrB W ((wr.setCell ⟨r2, 0, none⟩ a).setCell ⟨r2, 1, none⟩ b) r x y :=
  ⟨((Below.heap_setCell _ _ _ _ (fun e => hr e.symm)).trans (Below.heap_setCell _ _ _ _ (fun e => hr e.symm))).trans h.res, (h.bel.setCell (p := ⟨r2, 0, none⟩) hl a).setCell (p := ⟨r2, 1, none⟩) hl b, h.lr⟩
set_option maxRecDepth 100000 in
set_option maxHeartbeats 3200000 in
theorem DrawAddFractions_a (B : Nat) (cv : Value) (bs : List UInt8) (w : World) (h : Rd w B cv bs.length 1 (bs.map byV)) (hB : B ≤ w.heap.size) : Calls Tryd.prog 6 #[cv] w (RetDF2 w) := by
  have HF := Lib.hid (fun wx hx hz => l00From_any B cv bs wx hx hz)
  have HC := Lib.hid h
  obtain ⟨A, c, rfl⟩ := rd_sl h
  clear h
  obtain ⟨HA0, HB0⟩ := FrB.pair w (.int .i64 0) (.int .i64 0) (.int .i64 0) (.int .i64 0)
  have HFr := Lib.hid (HF.out _ (HC.out.below (HA0.bel.mono hB)) (Nat.le_trans hB HA0.bel.size))
  have hsz : w.heap.size + 1 < ((w.alloc (.cells #[.int .i64 0, .int .i64 0] 25)).alloc (.cells #[.int .i64 0, .int .i64 0] 25)).heap.size := by simp
  have H1 := Lib.hid HA0
  have H2 := Lib.hid HB0
  clear HA0 HB0
  go_enter Tryd.func6, Tryd.ntmps6
  go_upto_region 1 with (fail)
  generalize (w.alloc (.cells #[.int .i64 0, .int .i64 0] 25)).alloc (.cells #[.int .i64 0, .int .i64 0] 25) = wa at *
  go_wp2_with fail
  refine HFr.out.mono ?_; rintro e w1 ⟨rfl, hs1, hb1, hlt⟩
  have H1b := Lib.hid (H1.out.below hb1)
  have H2b := Lib.hid (H2.out.below hb1)
  have Hs1 := Lib.hid hs1
  clear hs1 hb1 H1 H2 HFr
  generalize wa.heap.size = g at *
  go_wp2_with fail
  refine (drawFr_any B _ 0 bs _ Hs1.out (by omega)).mono ?_; rintro e w2 ⟨N, D, rfl, hs2, hg2⟩
  have H1c := Lib.hid (H1b.out.draw hg2 (by omega) (by omega))
  have H2c := Lib.hid (H2b.out.draw hg2 (by omega) (by omega))
  have hgl := hs2.lt
  have hba := (Below.refl w2.heap.size w2).alloc (Nat.le_refl _) (.cells #[.int .i64 N, .int .i64 D] 25)
  have H1d := Lib.hid (H1c.out.below hba)
  have H2d := Lib.hid (H2c.out.below hba)
  have HQ := Lib.hid (FrB.new H1c.out.bel (.int .i64 N) (.int .i64 D))
  have Hs2 := Lib.hid (hs2.below hba)
  have hgq : g < w2.heap.size := hgl
  have hrq := blk_ltF H2c.out.res
  clear hs2 hg2 hba H1b H2b H1c H2c hgl
  go_upto_region 3 with (fail)
  generalize w2.alloc (.cells #[.int .i64 N, .int .i64 D] 25) = w3 at *
  generalize w2.heap.size = q at *
  obtain ⟨z0, z1, _, _⟩ := blk2 HQ.out.res
  have HP := Lib.hid (drawFr_any B g _ bs w3.drew (SrcAt.drew Hs2.out) (by omega))
  refine wp_region_noPanic ?_
  refine wp_region_L [4,3] (fun w' => w'.cell? ⟨q, 0, none⟩ = some (.int .i64 N) ∧ w'.cell? ⟨q, 1, none⟩ = some (.int .i64 D)) (by kernel_rfl) (⟨z0, z1⟩) (fun hHeld => ?_)
  refine take_L [0] (i := 0) (d := some 10) (v := ?_) (by kernel_rfl) (by kernel_rfl) (by kernel_rfl) (by kernel_rfl) rfl rfl (by kernel_rfl) (by kernel_rfl) (by kernel_rfl) (fun _ _ _ h => h) (Or.inl ⟨by rfl, ?_⟩) (by assumption) ?_
  rotate_left
  · (intro w hSw; (try dsimp only at hSw); go_simp; (try rw [if_neg (by omega)]); (try (with_reducible rfl)))
  simp only [Act.put, List.setIfInBounds_toArray, List.set_cons_zero, List.set_cons_succ]
  refine take_F (i := 1) (d := some 11) (v := ?_) (by kernel_rfl) (by kernel_rfl) rfl rfl (by kernel_rfl) (by kernel_rfl) (by kernel_rfl) (fun _ _ _ h => h) (Or.inl ⟨by rfl, ?_⟩) (by assumption) ?_
  rotate_left
  · (intro w hSw; (try dsimp only at hSw); go_simp; (try rw [if_neg (by omega)]); (try (with_reducible rfl)))
  simp only [Act.put, List.setIfInBounds_toArray, List.set_cons_zero, List.set_cons_succ]
  refine call_L (i := 2) (d := (some 12)) rfl rfl (by kernel_rfl) (fun Kq hKq => ?_)
  go_simp
  go_at_call 47
  refine HP.out.mono ?_; rintro e w5 ⟨M, E, rfl, hs5, hg5⟩
  have HQ5 := Lib.hid (HQ.out.draw (grown_undrew hg5) (by omega) (by omega))
  have H15 := Lib.hid (H1d.out.draw (grown_undrew hg5) (by omega) (by omega))
  have H25 := Lib.hid (H2d.out.draw (grown_undrew hg5) (by omega) (by omega))
  clear hs5 hg5 HP H1d H2d HQ z0 z1
  obtain ⟨z0, z1, _, _⟩ := blk2 HQ5.out.res
  obtain ⟨u0, u1, u2, u3⟩ := blk2 H15.out.res
  (try go_wp2_with fail)
  refine hKq.out _ _ (⟨z0, z1⟩) (fun hHeld => ?_)
  clear hKq Kq
  (try simp only [Act.put, List.setIfInBounds_toArray, List.set_cons_zero, List.set_cons_succ])
  refine late_L (i := 3) (d := none) (by kernel_rfl) rfl rfl (by kernel_rfl) (fun Kq hKq => ?_)
  go_simp
  refine hKq.out _ _ ?_
  clear hKq Kq
  have H16 := Lib.hid (H15.out.put (.int .i64 N) (.int .i64 D))
  have H26 := Lib.hid (H25.out.othr' (r2 := w.heap.size) (by omega) (.int .i64 N) (.int .i64 D) (Nat.le_refl _))
  generalize (w5.setCell ⟨w.heap.size, 0, none⟩ (.int .i64 N)).setCell ⟨w.heap.size, 1, none⟩ (.int .i64 D) = w6 at *
  clear u0 u1 u2 u3 H15 H25 HQ5 z0 z1
  obtain ⟨v0, v1, v2, v3⟩ := blk2 H26.out.res
  refine late_L (i := 4) (d := none) (by kernel_rfl) rfl rfl (by kernel_rfl) (fun Kq hKq => ?_)
  go_simp
  refine hKq.out _ _ ?_
  clear hKq Kq
  refine done_L (by kernel_rfl) ?_ _
  refine NoPanic.normal ?_
  have H17 := Lib.hid (H16.out.othr' (r2 := w.heap.size + 1) (by omega) (.int .i64 M) (.int .i64 E) (by omega))
  have H27 := Lib.hid (H26.out.put (.int .i64 M) (.int .i64 E))
  generalize (w6.setCell ⟨w.heap.size + 1, 0, none⟩ (.int .i64 M)).setCell ⟨w.heap.size + 1, 1, none⟩ (.int .i64 E) = w7 at *
  clear v0 v1 v2 v3
  go_wp2_with fail
  obtain ⟨k0, k1, _, _⟩ := blk2 H17.out.res
  obtain ⟨k2, k3, _, _⟩ := blk2 H27.out.res
  exact bodyPost_ret (v := .tuple #[aggQ N D, aggQ M E]) (by simp [results, Tryd.results6, go_sem, k0, k1, k2, k3]) rfl ⟨N, D, M, E, rfl, H17.out.bel⟩
end Go.Proofs.YtmeenihnhfhbkaaDoor
/- Drums: valid drums, both sides. -/
namespace Go.Proofs.YtmeenihnhfhbkaaDoor
open Go.RowKit Go.Joins

structure Dm where
  k : Int
  b : Int
  t : Int
  f : Int
deriving DecidableEq
abbrev aggDm (d : Dm) : Value := .agg #[.int .i64 d.k, .int .i64 d.b, .int .i64 d.t, .int .i64 d.f]
/-- a drum's cells -/
structure DmAt (w : World) (b : Nat) (d : Dm) : Prop where
  c0 : w.cell? ⟨b, 0, none⟩ = some (.int .i64 d.k)
  c1 : w.cell? ⟨b, 1, none⟩ = some (.int .i64 d.b)
  c2 : w.cell? ⟨b, 2, none⟩ = some (.int .i64 d.t)
  c3 : w.cell? ⟨b, 3, none⟩ = some (.int .i64 d.f)
theorem DmAt.drewN {w : World} {b : Nat} {d : Dm} (h : DmAt w b d) (n : Nat) : DmAt (w.drewN n) b d := ⟨h.1, h.2, h.3, h.4⟩
theorem DmAt.of {w : World} {g : Nat} {d : Dm} {t : TypeId} (h : w.heap[g]? = some (.cells #[.int .i64 d.k, .int .i64 d.b, .int .i64 d.t, .int .i64 d.f] t (0, 0))) : DmAt w g d := by
  obtain ⟨⟨h0, h1, h2, h3⟩, _⟩ := blk4 h
  exact ⟨h0, h1, h2, h3⟩
def okDm (d : Dm) : Bool := inB d.k 1 3 && inB d.b 2 16 && inB d.t d.b 60 && (if d.k = 3 then decide (d.f = 0) else inB d.f 1 (d.t - d.b + 2))
theorem okDm_cases (d : Dm) : (inB d.k 1 3 = false ∧ okDm d = false) ∨ (inB d.k 1 3 = true ∧ inB d.b 2 16 = false ∧ okDm d = false) ∨ (inB d.k 1 3 = true ∧ inB d.b 2 16 = true ∧ inB d.t d.b 60 = false ∧ okDm d = false) ∨
    (inB d.k 1 3 = true ∧ inB d.b 2 16 = true ∧ inB d.t d.b 60 = true ∧ d.k = 3 ∧ okDm d = (d.f == 0)) ∨ (inB d.k 1 3 = true ∧ inB d.b 2 16 = true ∧ inB d.t d.b 60 = true ∧ d.k ≠ 3 ∧ okDm d = inB d.f 1 (d.t - d.b + 2)) := by
  unfold okDm
  cases inB d.k 1 3 <;> cases inB d.b 2 16 <;> cases inB d.t d.b 60 <;> simp
  by_cases h : d.k = 3
  · simp [h]; rfl
  · simp [h]
theorem inB_bd {n a b : Int} (h : inB n a b = true) : a ≤ n ∧ n ≤ b := by
  unfold inB at h
  simpa only [Bool.and_eq_true, decide_eq_true_eq] using h
/-- what a valid drum's numbers are -/
theorem okDm_bd {d : Dm} (h : okDm d = true) : (d.k = 1 ∨ d.k = 2 ∨ d.k = 3) ∧ 2 ≤ d.b ∧ d.b ≤ 16 ∧ d.b ≤ d.t ∧ d.t ≤ 60 ∧ (d.k = 3 → d.f = 0) ∧ (d.k ≠ 3 → 1 ≤ d.f ∧ d.f ≤ d.t - d.b + 2) := by
  rcases okDm_cases d with ⟨_, h2⟩ | ⟨_, _, h2⟩ | ⟨_, _, _, h2⟩ | ⟨h1, h2, h3, h4, h5⟩ | ⟨h1, h2, h3, h4, h5⟩
  · rw [h] at h2; cases h2
  · rw [h] at h2; cases h2
  · rw [h] at h2; cases h2
  · rw [h] at h5
    have := inB_bd h1; have := inB_bd h2; have := inB_bd h3
    have h6 : d.f = 0 := by simpa using h5.symm
    exact ⟨by omega, by omega, by omega, by omega, by omega, fun _ => h6, fun h => absurd h4 h⟩
  · rw [h] at h5
    have := inB_bd h1; have := inB_bd h2; have := inB_bd h3; have := inB_bd h5.symm
    exact ⟨by omega, by omega, by omega, by omega, by omega, fun h => absurd h h4, fun _ => by omega⟩

end Go.Proofs.YtmeenihnhfhbkaaDoor
/- Drums: the times of a digit's steps, both sides. -/
namespace Go.Proofs.YtmeenihnhfhbkaaDoor
open Go.RowKit Go.Joins

theorem DmAt.below {w w' : World} {b B : Nat} {d : Dm} (h : DmAt w b d) (hb : b < B) (hw : Below B w w') : DmAt w' b d :=
  ⟨(hw.cell (p := ⟨b, 0, none⟩) hb).trans h.c0, (hw.cell (p := ⟨b, 1, none⟩) hb).trans h.c1, (hw.cell (p := ⟨b, 2, none⟩) hb).trans h.c2, (hw.cell (p := ⟨b, 3, none⟩) hb).trans h.c3⟩
/-- the time of a tooth's step -/
def timeD (d : Dm) (g : Int) (j : Nat) : Int := if d.k = 1 then d.f + d.b - 1 - g + j else if d.k = 2 then d.f + j else (((j : Int) + 1) * d.t + g - 1) / g
theorem prodT {j : Nat} {g t : Int} (h : (j : Int) < g) (hg : g ≤ 15) (h0 : 0 ≤ t) (ht : t ≤ 60) : 0 ≤ ((j : Int) + 1) * t ∧ ((j : Int) + 1) * t ≤ 900 := by
  have h1 : 0 ≤ ((j : Int) + 1) * t := Int.mul_nonneg (by omega) h0
  have h2 : ((j : Int) + 1) * t ≤ 15 * t := Int.mul_le_mul_of_nonneg_right (by omega) h0
  omega
end Go.Proofs.YtmeenihnhfhbkaaDoor
/- Drums: the steps up to a time, both sides. -/
namespace Go.Proofs.YtmeenihnhfhbkaaDoor
open Go.RowKit Go.Joins

/-- how many of the first n are at most m -/
def cntT (T : Nat → Int) (m : Int) : Nat → Nat
  | 0 => 0
  | j + 1 => cntT T m j + if T j ≤ m then 1 else 0
theorem cntT_le (T : Nat → Int) (m : Int) : ∀ n, cntT T m n ≤ n := by
  intro n
  induction n with
  | zero => exact Nat.le_refl _
  | succ n ih => unfold cntT; split <;> omega
theorem cntT_yes {T : Nat → Int} {m : Int} {j : Nat} (h : T j ≤ m) : cntT T m (j + 1) = cntT T m j + 1 := by
  show cntT T m j + (if T j ≤ m then 1 else 0) = _
  rw [if_pos h]
theorem cntT_no {T : Nat → Int} {m : Int} {j : Nat} (h : ¬ T j ≤ m) : cntT T m (j + 1) = cntT T m j := by
  show cntT T m j + (if T j ≤ m then 1 else 0) = _
  rw [if_neg h]; rfl
def stepsD (d : Dm) (n : Nat) (time : Int) : Int := time / d.t * n + cntT (timeD d n) (time % d.t) n
theorem quoT {time t : Int} (h0 : 0 ≤ time) (h1 : time ≤ 100000) (ht : 2 ≤ t) : 0 ≤ time / t ∧ time / t ≤ 100000 := by
  have h2 : 0 ≤ time / t := Int.ediv_nonneg h0 (by omega)
  have h3 : time / t ≤ time := Int.ediv_le_self t h0
  omega
theorem prodQ {Q : Int} {n : Nat} (h0 : 0 ≤ Q) (h1 : Q ≤ 100000) (hn : n ≤ 15) : 0 ≤ Q * (n : Int) ∧ Q * (n : Int) ≤ 1500000 := by
  have h2 : 0 ≤ Q * (n : Int) := Int.mul_nonneg h0 (by omega)
  have h3 : Q * (n : Int) ≤ 100000 * (n : Int) := Int.mul_le_mul_of_nonneg_right h1 (by omega)
  omega

end Go.Proofs.YtmeenihnhfhbkaaDoor
/- Drums: codes, the times and the steps of a digit, both sides. -/
namespace Go.Proofs.YtmeenihnhfhbkaaDoor
open Go.RowKit Go.Joins

def codeD (d : Dm) (g : Int) : Int := if okDm d = false then 1 else if inB g 0 (d.b - 1) = false then 2 else 0
theorem code_cases (d : Dm) (g : Int) : (okDm d = false ∧ codeD d g = 1) ∨ (okDm d = true ∧ inB g 0 (d.b - 1) = false ∧ codeD d g = 2) ∨ (okDm d = true ∧ inB g 0 (d.b - 1) = true ∧ codeD d g = 0) := by
  unfold codeD
  cases okDm d <;> cases inB g 0 (d.b - 1) <;> simp
theorem code_0 {d : Dm} {g : Int} (h : codeD d g = 0) : okDm d = true ∧ ∃ n : Nat, g = (n : Int) ∧ (n : Int) < d.b := by
  rcases code_cases d g with ⟨_, h2⟩ | ⟨_, _, h2⟩ | ⟨h1, h2, _⟩
  · rw [h] at h2; cases h2
  · rw [h] at h2; cases h2
  · have := inB_bd h2
    exact ⟨h1, g.toNat, by omega, by omega⟩
/-- how many times a digit has -/
def nD (d : Dm) (g : Int) : Nat := if codeD d g = 0 then g.toNat else 0
def RetTm (w : World) (d : Dm) (g : Int) (e : Ending) (w' : World) : Prop :=
  ∃ v, e = .returned (.tuple #[v, .int .i64 (codeD d g)]) ∧ w'.ownsRow w.heap.size 2 1 v (nD d g) (tab (nD d g) (timeD d (nD d g))) ∧ Below w.heap.size w w'
theorem RetTm.no {d : Dm} {g c : Int} {w w' : World} (h : codeD d g = c) (hc : c ≠ 0) (hb : Below w.heap.size w w') : RetTm w d g (.returned (.tuple #[.slice none 0 0, .int .i64 c])) w' := by
  refine ⟨_, by rw [h], ?_, hb⟩
  have : nD d g = 0 := by unfold nD; rw [if_neg (by rw [h]; exact hc)]
  rw [this]
  exact World.ownsRow_nil _ _ _ _
theorem RetTm.yes {d : Dm} {n : Nat} {v : Value} {w w' : World} {base : Nat} (h : codeD d n = 0) (ho : w'.ownsRow base 2 1 v n (tab n (timeD d n))) (hle : w.heap.size ≤ base) (hb : Below w.heap.size w w') : RetTm w d n (.returned (.tuple #[v, .int .i64 0])) w' := by
  refine ⟨_, by rw [h], ?_, hb⟩
  have : nD d n = n := by unfold nD; rw [if_pos h]; omega
  rw [this]
  exact ownsRow_le ho hle
end Go.Proofs.YtmeenihnhfhbkaaDoor
/- Drums: StepsBy and StepsBetween, both sides. -/
namespace Go.Proofs.YtmeenihnhfhbkaaDoor
open Go.RowKit Go.Joins

def sbC (d : Dm) (g time : Int) : Int := if codeD d g = 0 then (if inB time 0 100000 = true then 0 else 2) else codeD d g
def sbV (d : Dm) (g time : Int) : Int := if sbC d g time = 0 then stepsD d g.toNat time else 0
theorem by_cases3 (d : Dm) (g time : Int) : (codeD d g ≠ 0 ∧ sbC d g time = codeD d g ∧ sbV d g time = 0) ∨ (codeD d g = 0 ∧ inB time 0 100000 = false ∧ sbC d g time = 2 ∧ sbV d g time = 0) ∨
    (codeD d g = 0 ∧ inB time 0 100000 = true ∧ sbC d g time = 0 ∧ sbV d g time = stepsD d g.toNat time) := by
  have hv : sbV d g time = if sbC d g time = 0 then stepsD d g.toNat time else 0 := rfl
  have hc : sbC d g time = if codeD d g = 0 then (if inB time 0 100000 = true then 0 else 2) else codeD d g := rfl
  by_cases h0 : codeD d g = 0
  · rw [if_pos h0] at hc
    cases hi : inB time 0 100000 with
    | false =>
      rw [hi] at hc
      have hc2 : sbC d g time = 2 := hc
      rw [hc2] at hv
      exact .inr (.inl ⟨h0, rfl, hc2, hv⟩)
    | true =>
      rw [hi] at hc
      have hc2 : sbC d g time = 0 := hc
      rw [hc2] at hv
      exact .inr (.inr ⟨h0, rfl, hc2, hv⟩)
  · rw [if_neg h0] at hc
    rw [hc, if_neg h0] at hv
    exact .inl ⟨h0, hc, hv⟩
end Go.Proofs.YtmeenihnhfhbkaaDoor
/- Drums: StepsBetween, both sides. -/
namespace Go.Proofs.YtmeenihnhfhbkaaDoor
open Go.RowKit Go.Joins

theorem blk_ltD {w : World} {q : Nat} {o : Obj} (h : w.heap[q]? = some o) : q < w.heap.size := (Array.getElem?_eq_some_iff.1 h).1
def btC (d : Dm) (g a b : Int) : Int := if codeD d g = 0 then (if inB a 0 100000 = true ∧ inB b 0 100000 = true ∧ a ≤ b then 0 else 2) else codeD d g
def btV (d : Dm) (g a b : Int) : Int := if btC d g a b = 0 then stepsD d g.toNat b - stepsD d g.toNat a else 0
theorem bt_cases (d : Dm) (g a b : Int) : (codeD d g ≠ 0 ∧ btC d g a b = codeD d g ∧ btV d g a b = 0) ∨
    (codeD d g = 0 ∧ inB a 0 100000 = false ∧ btC d g a b = 2 ∧ btV d g a b = 0) ∨
    (codeD d g = 0 ∧ inB a 0 100000 = true ∧ inB b 0 100000 = false ∧ inB b a 100000 = false ∧ btC d g a b = 2 ∧ btV d g a b = 0) ∨
    (codeD d g = 0 ∧ inB a 0 100000 = true ∧ inB b 0 100000 = true ∧ b < a ∧ inB b a 100000 = false ∧ btC d g a b = 2 ∧ btV d g a b = 0) ∨
    (codeD d g = 0 ∧ inB a 0 100000 = true ∧ inB b 0 100000 = true ∧ a ≤ b ∧ inB b a 100000 = true ∧ btC d g a b = 0 ∧ btV d g a b = stepsD d g.toNat b - stepsD d g.toNat a) := by
  have hv : btV d g a b = if btC d g a b = 0 then stepsD d g.toNat b - stepsD d g.toNat a else 0 := rfl
  have hc : btC d g a b = if codeD d g = 0 then (if inB a 0 100000 = true ∧ inB b 0 100000 = true ∧ a ≤ b then 0 else 2) else codeD d g := rfl
  by_cases h0 : codeD d g = 0
  · rw [if_pos h0] at hc
    cases h1 : inB a 0 100000 with
    | false =>
      rw [h1, if_neg (by simp)] at hc
      rw [hc] at hv
      exact .inr (.inl ⟨h0, rfl, hc, hv⟩)
    | true =>
      have a1 := inB_bd h1
      cases h2 : inB b 0 100000 with
      | false =>
        rw [h2, if_neg (by simp)] at hc
        rw [hc] at hv
        have h3 : inB b a 100000 = false := by
          cases h4 : inB b a 100000 with
          | false => rfl
          | true =>
            have := inB_bd h4
            have h5 : inB b 0 100000 = true := by unfold inB; simp; omega
            rw [h2] at h5; cases h5
        exact .inr (.inr (.inl ⟨h0, rfl, rfl, h3, hc, hv⟩))
      | true =>
        have b1 := inB_bd h2
        by_cases hab : a ≤ b
        · rw [h1, h2, if_pos ⟨rfl, rfl, hab⟩] at hc
          rw [hc] at hv
          have h5 : inB b a 100000 = true := by unfold inB; simp; omega
          exact .inr (.inr (.inr (.inr ⟨h0, rfl, rfl, hab, h5, hc, hv⟩)))
        · rw [if_neg (fun h => hab h.2.2)] at hc
          rw [hc] at hv
          have h5 : inB b a 100000 = false := by unfold inB; simp; omega
          exact .inr (.inr (.inr (.inl ⟨h0, rfl, rfl, by omega, h5, hc, hv⟩)))
  · rw [if_neg h0] at hc
    rw [hc, if_neg h0] at hv
    exact .inl ⟨h0, hc, hv⟩
theorem stepsD_bd {d : Dm} {n : Nat} {time : Int} (hok : okDm d = true) (hn : (n : Int) < d.b) (h0 : 0 ≤ time) (h1 : time ≤ 100000) : 0 ≤ stepsD d n time ∧ stepsD d n time ≤ 1600000 := by
  obtain ⟨_, b1, b2, b3, b4, _⟩ := okDm_bd hok
  obtain ⟨q0, q1⟩ := quoT (t := d.t) h0 h1 (by omega)
  obtain ⟨p0, p1⟩ := prodQ (n := n) q0 q1 (by omega)
  have h2 := cntT_le (timeD d n) (time % d.t) n
  unfold stepsD
  omega
end Go.Proofs.YtmeenihnhfhbkaaDoor
/- Drums: the digit for times, both sides. -/
namespace Go.Proofs.YtmeenihnhfhbkaaDoor
open Go.RowKit Go.Joins

def sameF (n m : Nat) (f g : Nat → Int) : Bool := decide (n = m) && (List.range n).all fun i => f i == g i
theorem sameF_yes {n : Nat} {f g : Nat → Int} (h : ∀ j, j < n → f j = g j) : sameF n n f g = true := by
  unfold sameF
  rw [decide_eq_true rfl, Bool.true_and, List.all_eq_true]
  intro i hi
  rw [h i (List.mem_range.1 hi)]; simp
theorem sameF_no {n : Nat} {f g : Nat → Int} (i : Nat) (hi : i < n) (h : f i ≠ g i) : sameF n n f g = false := by
  cases hs : sameF n n f g with
  | false => rfl
  | true =>
    unfold sameF at hs
    rw [decide_eq_true rfl, Bool.true_and, List.all_eq_true] at hs
    have := hs i (List.mem_range.2 hi)
    exact absurd (by simpa using this) h
theorem sameF_ne {n m : Nat} {f g : Nat → Int} (h : n ≠ m) : sameF n m f g = false := by unfold sameF; rw [decide_eq_false h]; rfl
def dfC (d : Dm) (m : Nat) (F : Nat → Int) : Int := if okDm d = false then 1 else if (m : Int) < d.b ∧ sameF m m (timeD d m) F = true then 0 else 3
def dfV (d : Dm) (m : Nat) (F : Nat → Int) : Int := if dfC d m F = 0 then m else 0
theorem df_1 {d : Dm} {m : Nat} {F : Nat → Int} (h : okDm d = false) : dfC d m F = 1 ∧ dfV d m F = 0 := by
  have h1 : dfC d m F = 1 := by unfold dfC; rw [if_pos h]
  exact ⟨h1, by unfold dfV; rw [h1]; rfl⟩
theorem df_3 {d : Dm} {m : Nat} {F : Nat → Int} (h : okDm d = true) (h2 : (m : Int) < d.b → sameF m m (timeD d m) F = false) : dfC d m F = 3 ∧ dfV d m F = 0 := by
  have h1 : dfC d m F = 3 := by
    unfold dfC
    rw [h, if_neg (by decide), if_neg]
    rintro ⟨a, b⟩
    rw [h2 a] at b; cases b
  exact ⟨h1, by unfold dfV; rw [h1]; rfl⟩
theorem df_0 {d : Dm} {m : Nat} {F : Nat → Int} (h : okDm d = true) (h1 : (m : Int) < d.b) (h2 : sameF m m (timeD d m) F = true) : dfC d m F = 0 ∧ dfV d m F = m := by
  have h3 : dfC d m F = 0 := by unfold dfC; rw [h, if_neg (by decide), if_pos ⟨h1, h2⟩]
  exact ⟨h3, by unfold dfV; rw [if_pos h3]⟩
end Go.Proofs.YtmeenihnhfhbkaaDoor
/- Drums that are drawn: l05Draw. -/
namespace Go.Proofs.YtmeenihnhfhbkaaDoor
open Go.RowKit Go.Joins

abbrev put4D (w : World) (g : Nat) (d : Dm) : World := put4 w g (.int .i64 d.k) (.int .i64 d.b) (.int .i64 d.t) (.int .i64 d.f)
def RetDw (w : World) (B g k : Nat) (bs : List UInt8) (e : Ending) (w' : World) : Prop := ∃ d : Dm, e = .returned (aggDm d) ∧ (2 ≤ d.b ∧ d.b ≤ 16 ∧ d.b ≤ d.t ∧ d.t ≤ 36 ∧ 0 ≤ d.f ∧ d.f ≤ 40) ∧ SrcAt w' B g k bs ∧ w.grownBy w' (some g)
end Go.Proofs.YtmeenihnhfhbkaaDoor
/- Drums that are drawn: l05Bent, l05Clock. -/
namespace Go.Proofs.YtmeenihnhfhbkaaDoor
open Go.RowKit Go.Joins

def RetDb (w : World) (B g k : Nat) (bs : List UInt8) (e : Ending) (w' : World) : Prop := ∃ d : Dm, e = .returned (aggDm d) ∧ SrcAt w' B g k bs ∧ w.grownBy w' (some g)
end Go.Proofs.YtmeenihnhfhbkaaDoor
/- Drums that are drawn: l05Digit. -/
namespace Go.Proofs.YtmeenihnhfhbkaaDoor
open Go.RowKit Go.Joins

theorem l00MinD_any (a b : Int) (w : World) : Calls Tryd.prog 63 #[.int .i64 a, .int .i64 b] w fun e w' => e = .returned (.int .i64 (if a < b then a else b)) ∧ w = w' := by
  by_cases h : a < b
  · rw [if_pos h]
    go_enter Tryd.func63, Tryd.ntmps63
    go_wp2_with fail
    go_ret
    exact ⟨rfl, rfl⟩
  · rw [if_neg h]
    go_enter Tryd.func63, Tryd.ntmps63
    go_wp2_with fail
    go_ret
    exact ⟨rfl, rfl⟩
theorem l00MaxD_any (a b : Int) (w : World) : Calls Tryd.prog 94 #[.int .i64 a, .int .i64 b] w fun e w' => e = .returned (.int .i64 (if b < a then a else b)) ∧ w = w' := by
  by_cases h : b < a
  · rw [if_pos h]
    go_enter Tryd.func94, Tryd.ntmps94
    go_wp2_with fail
    go_ret
    exact ⟨rfl, rfl⟩
  · rw [if_neg h]
    go_enter Tryd.func94, Tryd.ntmps94
    go_wp2_with fail
    go_ret
    exact ⟨rfl, rfl⟩
theorem blk_ltN {w : World} {q : Nat} {o : Obj} (h : w.heap[q]? = some o) : q < w.heap.size := (Array.getElem?_eq_some_iff.1 h).1
def RetDg (w : World) (B g k : Nat) (bs : List UInt8) (e : Ending) (w' : World) : Prop := ∃ (d : Dm) (x : Int), e = .returned (.tuple #[aggDm d, .int .i64 x]) ∧ SrcAt w' B g k bs ∧ w.grownBy w' (some g)
end Go.Proofs.YtmeenihnhfhbkaaDoor
/- Drums: the law's draws, from the code. -/
namespace Go.Proofs.YtmeenihnhfhbkaaDoor
open Go.RowKit Go.Joins

end Go.Proofs.YtmeenihnhfhbkaaDoor
/- Drums: plain facts of the times; a row of numbers beside a draw from the code. -/
namespace Go.Proofs.YtmeenihnhfhbkaaDoor
open Go.RowKit Go.Joins

theorem ceil_le {a g t : Int} (hg : 0 < g) (h : a ≤ g * t) : (a + g - 1) / g ≤ t := by
  have h1 : a + g - 1 < (t + 1) * g := by
    have : (t + 1) * g = g * t + g := by rw [Int.add_mul, Int.one_mul, Int.mul_comm]
    omega
  have h2 := Int.ediv_lt_of_lt_mul hg h1
  omega
theorem timeD_bd {d : Dm} {n j : Nat} (hok : okDm d = true) (hn : (n : Int) < d.b) (hj : j < n) : 1 ≤ timeD d n j ∧ timeD d n j ≤ d.t := by
  obtain ⟨hk, b1, b2, b3, b4, hf3, hf1⟩ := okDm_bd hok
  unfold timeD
  rcases hk with h | h | h
  · have hf := hf1 (by omega)
    rw [if_pos h]; omega
  · have hf := hf1 (by omega)
    rw [if_neg (by omega), if_pos h]; omega
  · rw [if_neg (by omega), if_neg (by omega)]
    have hn0 : (0 : Int) < (n : Int) := by omega
    have h1 : ((j : Int) + 1) * d.t ≤ (n : Int) * d.t := Int.mul_le_mul_of_nonneg_right (by omega) (by omega)
    have h2 : 1 * d.t ≤ ((j : Int) + 1) * d.t := Int.mul_le_mul_of_nonneg_right (by omega) (by omega)
    refine ⟨?_, ceil_le hn0 h1⟩
    have h3 := Int.le_ediv_of_mul_le (a := 1) (b := ((j : Int) + 1) * d.t + n - 1) hn0 (by omega)
    exact h3
theorem timeD_up {d : Dm} {n j : Nat} (hok : okDm d = true) (hn : (n : Int) < d.b) (hj : j + 1 < n) : timeD d n j < timeD d n (j + 1) := by
  obtain ⟨hk, b1, b2, b3, b4, hf3, hf1⟩ := okDm_bd hok
  unfold timeD
  rcases hk with h | h | h
  · rw [if_pos h, if_pos h]; push_cast; omega
  · rw [if_neg (by omega), if_pos h, if_neg (by omega), if_pos h]; push_cast; omega
  · rw [if_neg (by omega), if_neg (by omega), if_neg (by omega), if_neg (by omega)]
    have hn0 : (0 : Int) < (n : Int) := by omega
    have e : ((((j + 1 : Nat) : Int) + 1) * d.t) = ((j : Int) + 1) * d.t + d.t := by push_cast; rw [Int.add_mul]; omega
    rw [e]
    have h4 : (((j : Int) + 1) * d.t + n - 1 + n * 1) / (n : Int) = (((j : Int) + 1) * d.t + n - 1) / n + 1 := Int.add_mul_ediv_left _ _ (by omega)
    have h5 : (((j : Int) + 1) * d.t + n - 1 + n * 1) / (n : Int) ≤ (((j : Int) + 1) * d.t + d.t + n - 1) / n := Int.ediv_le_ediv hn0 (by omega)
    omega
theorem timeD_last {d : Dm} {n : Nat} (hok : okDm d = true) (hn : (n : Int) < d.b) : ∀ j, j < n → timeD d n j ≤ d.t := fun j hj => (timeD_bd hok hn hj).2
/-- a whole turn makes as many steps as the digit -/
theorem steps_turn {d : Dm} {n : Nat} (hok : okDm d = true) (hn : (n : Int) < d.b) : stepsD d n d.t = n := by
  obtain ⟨_, b1, b2, b3, b4, _⟩ := okDm_bd hok
  unfold stepsD
  rw [Int.ediv_self (by omega), Int.emod_self]
  have h : ∀ m, m ≤ n → cntT (timeD d n) 0 m = 0 := by
    intro m
    induction m with
    | zero => intro _; rfl
    | succ m ih =>
      intro hm
      rw [cntT_no (by have := (timeD_bd hok hn (j := m) (by omega)).1; omega), ih (by omega)]
  rw [h n (Nat.le_refl _)]
  omega
theorem cntT_mono {T : Nat → Int} {a b : Int} (h : a ≤ b) : ∀ n, cntT T a n ≤ cntT T b n := by
  intro n
  induction n with
  | zero => exact Nat.le_refl _
  | succ n ih =>
    unfold cntT
    by_cases h1 : T n ≤ a
    · rw [if_pos h1, if_pos (by omega)]; omega
    · rw [if_neg h1]; split <;> omega
/-- steps grow with the time -/
theorem steps_mono {d : Dm} {n : Nat} {a b : Int} (hok : okDm d = true) (h0 : 0 ≤ a) (hab : a ≤ b) : stepsD d n a ≤ stepsD d n b := by
  obtain ⟨_, b1, b2, b3, b4, _⟩ := okDm_bd hok
  have ht : 0 < d.t := by omega
  unfold stepsD
  have hq : a / d.t ≤ b / d.t := Int.ediv_le_ediv ht hab
  have hca := cntT_le (timeD d n) (a % d.t) n
  rcases Int.lt_or_eq_of_le hq with hlt | heq
  · have h1 : (a / d.t + 1) * (n : Int) ≤ b / d.t * (n : Int) := Int.mul_le_mul_of_nonneg_right (by omega) (by omega)
    rw [Int.add_mul, Int.one_mul] at h1
    omega
  · have e1 := Int.emod_def a d.t
    have e2 := Int.emod_def b d.t
    rw [← heq] at e2 ⊢
    have h2 : a % d.t ≤ b % d.t := by rw [e1, e2]; omega
    have h3 := cntT_mono (T := timeD d n) h2 n
    omega
theorem sameF_self (n : Nat) (f : Nat → Int) : sameF n n f f = true := sameF_yes (fun _ _ => rfl)
end Go.Proofs.YtmeenihnhfhbkaaDoor
/- Drums: names; lists that are equal. -/
namespace Go.Proofs.YtmeenihnhfhbkaaDoor
open Go.RowKit Go.Joins

theorem ret_boolD {a b : Bool} (h : a = b) : Ending.returned (.bool a) = .returned (.bool b) := by rw [h]
theorem f6ints_sameD (B1 B2 : Nat) (v1 v2 : Value) (n : Nat) (f g : Nat → Int) (w : World) (h : Rd w B1 v1 n 1 (tab n f)) (h' : Rd w B2 v2 n 1 (tab n g)) (hn : n ≤ 1000) (he : ∀ i, i < n → f i = g i) :
    Calls Tryd.prog 23 #[v1, v2] w fun e w' => e = .returned (.bool true) ∧ ∃ k, w' = w.drewN k := by
  have H := Lib.hid h
  have H' := Lib.hid h'
  have HE := Lib.hid he
  obtain ⟨A, c, rfl⟩ := rd_sl h
  obtain ⟨A', c', rfl⟩ := rd_sl h'
  clear h h' he
  go_enter Tryd.func23, Tryd.ntmps23
  go_wp2_with fail
  go_loopw [5] (fun i wr => ∃ (k d : Nat), k ≤ n ∧ i = .int .i64 (k : Int) ∧ wr = w.drewN d) (fun i _ => n - (intOf i).toNat)
  case atStart => exact ⟨0, 0, Nat.zero_le _, rfl, rfl⟩
  case round =>
    obtain ⟨k, d, hk, rfl, rfl⟩ := hrel
    by_cases hlt : k < n
    · obtain ⟨b1, o1, hA, _, hcc⟩ := rdF_all H.out (by omega)
      obtain ⟨b2, o2, hA', _, hcc'⟩ := rdF_all H'.out (by omega)
      subst hA hA'
      have q0 := hcc k hlt
      have q1 := hcc' k hlt
      rw [← HE.out k hlt] at q1
      have hlt' : (k : Int) < (n : Int) := by omega
      generalize f k = x at *
      clear hcc hcc'
      go_wp2_with fail
      go_quiet (fail)
      go_wp2_with fail
      go_roundw
      case rel => exact ⟨k + 1, d + _, by omega, by go_num, rfl⟩
      case measure => first | (simp [intOf]; done) | (simp [intOf]; omega)
    · have hlt' : (n : Int) ≤ (k : Int) := by omega
      go_wp2_with fail
      go_ret
      exact ⟨rfl, d, rfl⟩
theorem f6big_D (B n : Nat) (v : Value) (xs : List Value) (w : World) (h : Rd w B v n 1 xs) : Calls Tryd.prog 5 #[v] w fun e w' => e = .returned (.bool (decide (4096 < n))) ∧ w = w' := by
  obtain ⟨A, c, rfl⟩ := rd_sl h
  clear h
  by_cases hc : 4096 < n
  · have h1 : (4096 : Int) < (n : Int) := by omega
    go_enter Tryd.func5, Tryd.ntmps5
    go_wp2_with fail
    go_ret
    exact ⟨ret_boolD (by simp [hc]), rfl⟩
  · have h1 : ¬ (4096 : Int) < (n : Int) := by omega
    go_enter Tryd.func5, Tryd.ntmps5
    go_wp2_with fail
    go_ret
    exact ⟨ret_boolD (by simp [hc]), rfl⟩
def nameDm (n : Int) : ByteArray := if n = 1 then ⟨#[115, 116, 101, 112, 112, 101, 100]⟩ else if n = 2 then ⟨#[112, 105, 110, 115]⟩ else if n = 3 then ⟨#[114, 97, 99, 107]⟩ else ⟨#[]⟩
theorem name_cases (n : Int) : n = 1 ∨ n = 2 ∨ n = 3 ∨ (n ≠ 1 ∧ n ≠ 2 ∧ n ≠ 3 ∧ inB n 1 3 = false ∧ nameDm n = ⟨#[]⟩) := by
  by_cases h1 : n = 1
  · exact .inl h1
  · by_cases h2 : n = 2
    · exact .inr (.inl h2)
    · by_cases h3 : n = 3
      · exact .inr (.inr (.inl h3))
      · refine .inr (.inr (.inr ⟨h1, h2, h3, ?_, by unfold nameDm; rw [if_neg h1, if_neg h2, if_neg h3]⟩))
        unfold inB
        simp
        omega
def nmS : List ByteArray := [⟨#[115, 116, 101, 112, 112, 101, 100]⟩, ⟨#[112, 105, 110, 115]⟩, ⟨#[114, 97, 99, 107]⟩]
theorem nm_new (w : World) (i : Nat) (z : ByteArray) (hz : nmS[i]? = some z) : (w.alloc (.cells #[.string ⟨#[115, 116, 101, 112, 112, 101, 100]⟩, .string ⟨#[112, 105, 110, 115]⟩, .string ⟨#[114, 97, 99, 107]⟩] 9)).cell? ⟨w.heap.size, i, none⟩ = some (.string z) := by
  have := new_cells w #[.string ⟨#[115, 116, 101, 112, 112, 101, 100]⟩, .string ⟨#[112, 105, 110, 115]⟩, .string ⟨#[114, 97, 99, 107]⟩] 9 i (.string z) (by
    have h := congrArg (fun o => o.map Value.string) hz
    rw [Option.map_some] at h
    rw [← h]
    rcases i with _ | _ | _ | i <;> simp [nmS])
  rwa [show (⟨w.heap.size, 0, none⟩ : Addr).add i = ⟨w.heap.size, i, none⟩ by unfold Addr.add; split <;> simp_all] at this
end Go.Proofs.YtmeenihnhfhbkaaDoor
