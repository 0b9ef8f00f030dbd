/- Merged texts: Bo1, U4, U5, One, Dr1, U6, U7, Fi9, Strs, Args, ArgRows, En1, En2, En3, En4, Lo1, Lo2, Lo3, Lo4, Lo5, Nm1, Nm2, Nm3, En6, En7, En8, En5, En9, Si1, Reg1, Si2, Si3, Si4, Si5, Lo6, Lo7, Lo8, Lo9, Lo10. -/
import Derived.Test.YtemcdmjnokpldaaGLawFiner1
import Derived.Test.YtemcdmjnokpldaaGLawFiner3
import Derived.Lib.SmallJoins
import Derived.ProofKit
import Derived.OpenShut
import Derived.Deep.Slices
import Derived.SliceStrings
import Derived.Test.YtemcdmjnokpldaaGLawFiner2
/- Bounds of errors, part 1: binomial coefficients and sums in plain words. -/
namespace Go.Proofs.Ytemcdmjnokpldaa

def ch : Nat → Nat → Nat
  | _, 0 => 1
  | 0, _ + 1 => 0
  | n + 1, k + 1 => ch n k + ch n (k + 1)
theorem ch_0 (n : Nat) : ch n 0 = 1 := by cases n <;> rfl
theorem ch_gt : ∀ n k, n < k → ch n k = 0
  | _, 0, h => by omega
  | 0, _ + 1, _ => rfl
  | n + 1, k + 1, h => by show ch n k + ch n (k + 1) = 0; rw [ch_gt n k (by omega), ch_gt n (k + 1) (by omega)]
theorem ch_both : ∀ n k, ch n (k + 1) * (k + 1) = ch n k * (n - k) ∧ ch (n + 1) (k + 1) * (k + 1) = ch n k * (n + 1)
  | 0, k => by
    refine ⟨by show 0 * (k + 1) = _; rw [Nat.zero_sub, Nat.mul_zero, Nat.zero_mul], ?_⟩
    show (ch 0 k + ch 0 (k + 1)) * (k + 1) = _
    cases k with
    | zero => rfl
    | succ k => show (0 + 0) * _ = 0 * _; simp
  | n + 1, k => by
    have h1 := ch_both n k
    have h2 : ch (n + 1) (k + 1) * (k + 1) = ch (n + 1) k * (n + 1 - k) := by
      cases k with
      | zero => rw [h1.2, ch_0, ch_0]; simp
      | succ j =>
        have h3 := (ch_both n j).1
        rw [h1.2]
        show ch n (j + 1) * (n + 1) = (ch n j + ch n (j + 1)) * (n + 1 - (j + 1))
        by_cases hj : j ≤ n
        · rw [Nat.add_mul, show n + 1 - (j + 1) = n - j by omega, ← h3, ← Nat.mul_add]
          congr 1; omega
        · rw [ch_gt n j (by omega), ch_gt n (j + 1) (by omega)]; simp
    refine ⟨h2, ?_⟩
    show (ch (n + 1) k + ch (n + 1) (k + 1)) * (k + 1) = _
    rw [Nat.add_mul, h2, ← Nat.mul_add]
    by_cases hk : k ≤ n + 1
    · congr 1; omega
    · rw [ch_gt (n + 1) k (by omega)]; simp
theorem ch_next (n k : Nat) : ch n k * (n - k) / (k + 1) = ch n (k + 1) := by
  rw [← (ch_both n k).1]; exact Nat.mul_div_cancel _ (by omega)
theorem ch_diag (n k : Nat) : ch n k * (n + 1) / (k + 1) = ch (n + 1) (k + 1) := by
  rw [← (ch_both n k).2]; exact Nat.mul_div_cancel _ (by omega)
theorem ch_up (n k : Nat) : ch n k ≤ ch (n + 1) k := by
  cases k with
  | zero => rw [ch_0, ch_0]; exact Nat.le_refl _
  | succ k => show _ ≤ ch n k + ch n (k + 1); omega
theorem ch_dg (n k : Nat) : ch n k ≤ ch (n + 1) (k + 1) := by show _ ≤ ch n k + ch n (k + 1); omega
theorem ch_pow : ∀ n k, ch n k ≤ 2 ^ n
  | n, 0 => by rw [ch_0]; exact Nat.one_le_two_pow
  | 0, _ + 1 => by simp [ch]
  | n + 1, k + 1 => by
    have h1 := ch_pow n k
    have h2 := ch_pow n (k + 1)
    show ch n k + ch n (k + 1) ≤ _
    rw [Nat.pow_succ]; omega
theorem ch_big {n k : Nat} (h : 1000000000000 < ch n k) : 20 ≤ n := by
  refine Nat.le_of_not_lt fun hn => ?_
  have h1 := ch_pow n k
  have h2 : 2 ^ n ≤ 2 ^ 20 := Nat.pow_le_pow_right (by omega) (by omega)
  have : (2 : Nat) ^ 20 = 1048576 := by decide
  omega
/-- a great coefficient stays great -/
theorem ch_stay {n k : Nat} (h : 1000000000000 < ch n k) (hk : k ≤ 8) : 1000000000000 < ch n (k + 1) := by
  have h1 := ch_big h
  have h2 := (ch_both n k).1
  refine Nat.lt_of_lt_of_le h ?_
  have h3 : ch n k * (k + 1) ≤ ch n (k + 1) * (k + 1) := by rw [h2]; exact Nat.mul_le_mul_left _ (by omega)
  exact Nat.le_of_mul_le_mul_right h3 (by omega)
/-- the greatest value and one more -/
def top : Nat := 1000000000001
def cp (x : Nat) : Nat := min x top
theorem cp_le (x : Nat) : cp x ≤ top := Nat.min_le_right _ _
theorem cp_step (n k : Nat) (hk : k ≤ 8) : cp (ch n (k + 1)) = if cp (ch n k) ≤ 1000000000000 then min (cp (ch n k) * (n - k) / (k + 1)) top else cp (ch n k) := by
  unfold cp
  split
  · rename_i h
    have e : min (ch n k) top = ch n k := by unfold top at h ⊢; omega
    rw [e, ch_next]
  · rename_i h
    have h1 : 1000000000000 < ch n k := by unfold top at h; omega
    have h2 := ch_stay h1 hk
    unfold top; omega
/-- the errors of the first k differences after n steps -/
def sm (s : Nat → Nat) (n : Nat) : Nat → Nat
  | 0 => 0
  | k + 1 => sm s n k + s k * ch n k
theorem sm_mono (s : Nat → Nat) (n : Nat) : ∀ k, sm s n k ≤ sm s (n + 1) k
  | 0 => Nat.le_refl _
  | k + 1 => Nat.add_le_add (sm_mono s n k) (Nat.mul_le_mul_left _ (ch_up n k))
theorem sm_le (s : Nat → Nat) (n k : Nat) : ∀ j, sm s n k ≤ sm s n (k + j)
  | 0 => Nat.le_refl _
  | j + 1 => Nat.le_trans (sm_le s n k j) (Nat.le_add_right _ _)
def sb (s : Nat → Nat) (m n : Nat) : Nat := cp (sm s n m)
theorem sb_mono (s : Nat → Nat) (m n : Nat) : sb s m n ≤ sb s m (n + 1) := by
  have := sm_mono s n m
  unfold sb cp; omega
theorem sb_mono2 (s : Nat → Nat) (m n : Nat) : ∀ j, sb s m n ≤ sb s m (n + j)
  | 0 => Nat.le_refl _
  | j + 1 => Nat.le_trans (sb_mono2 s m n j) (sb_mono s m (n + j))
/-- a summand that is too great -/
theorem sb_over {s : Nat → Nat} {m n k : Nat} (hk : k < m) (h : 1000000000000 < sm s n k + s k * ch n k) : sb s m n = top := by
  have := sm_le s n (k + 1) (m - (k + 1))
  rw [show k + 1 + (m - (k + 1)) = m by omega] at this
  have e : sm s n (k + 1) = sm s n k + s k * ch n k := rfl
  unfold sb cp top; omega
theorem quo_gt {a c M : Nat} (ha : 0 < a) (h : M / a < c) : M < a * c := by
  rw [Nat.mul_comm]
  exact (Nat.div_lt_iff_lt_mul ha).1 h
theorem quo_le {a c M : Nat} (h : c ≤ M / a) : a * c ≤ M := by
  rw [Nat.mul_comm]
  by_cases ha : 0 < a
  · exact (Nat.le_div_iff_mul_le ha).1 h
  · obtain rfl : a = 0 := by omega
    simp
/-- the product with a capped coefficient -/
theorem cp_over {a x : Nat} (ha : 0 < a) (h : 1000000000000 / a < cp x) : 1000000000000 < a * x := by
  have h1 := quo_gt ha h
  exact Nat.lt_of_lt_of_le h1 (Nat.mul_le_mul_left _ (Nat.min_le_left _ _))
theorem cp_under {a x : Nat} (_ha : 0 < a) (h : cp x ≤ 1000000000000 / a) : cp x = x ∧ a * x ≤ 1000000000000 := by
  have h1 := quo_le h
  have h2 : cp x ≤ 1000000000000 := Nat.le_trans h (Nat.div_le_self _ _)
  have h3 : cp x = x := by unfold cp top at *; omega
  rw [h3] at h1
  exact ⟨h3, h1⟩
/-- the reference's step -/
def rs (s : Nat → Nat) (n : Nat) : Nat → Nat
  | 0 => 0
  | k + 1 => if 0 < s k then min top (rs s n k + s k * min (cp (ch n k)) (1000000000000 / s k + 1)) else rs s n k
theorem rs_eq (s : Nat → Nat) (n : Nat) : ∀ k, rs s n k = cp (sm s n k)
  | 0 => by simp [rs, sm, cp]
  | k + 1 => by
    have ih := rs_eq s n k
    show (if 0 < s k then min top (rs s n k + s k * min (cp (ch n k)) (1000000000000 / s k + 1)) else rs s n k) = cp (sm s n k + s k * ch n k)
    rw [ih]
    by_cases h : 0 < s k
    · rw [if_pos h]
      by_cases h2 : cp (ch n k) ≤ 1000000000000 / s k
      · obtain ⟨h3, h4⟩ := cp_under h h2
        rw [h3]
        rw [h3] at h2
        rw [show min (ch n k) (1000000000000 / s k + 1) = ch n k by omega]
        generalize s k * ch n k = x at *
        unfold cp top; omega
      · have h3 := cp_over h (Nat.lt_of_not_le h2)
        rw [show min (cp (ch n k)) (1000000000000 / s k + 1) = 1000000000000 / s k + 1 by omega]
        have h4 := quo_gt (c := 1000000000000 / s k + 1) h (Nat.lt_succ_self _)
        generalize s k * ch n k = x at *
        generalize s k * (1000000000000 / s k + 1) = y at *
        unfold cp top; omega
    · rw [if_neg h, show s k = 0 by omega]; simp
/-- the greatest number of steps -/
def SafeAt (s : Nat → Nat) (m limit r : Nat) : Prop := r ≤ 100000 ∧ sb s m r ≤ limit ∧ (r = 100000 ∨ limit < sb s m (r + 1))
theorem safe_one {s : Nat → Nat} {m limit r r' : Nat} (h : SafeAt s m limit r) (h' : SafeAt s m limit r') : r = r' := by
  obtain ⟨a, b, c⟩ := h
  obtain ⟨a', b', c'⟩ := h'
  by_cases h1 : r < r'
  · have := sb_mono2 s m (r + 1) (r' - (r + 1))
    rw [show r + 1 + (r' - (r + 1)) = r' by omega] at this
    omega
  · by_cases h2 : r' < r
    · have := sb_mono2 s m (r' + 1) (r - (r' + 1))
      rw [show r' + 1 + (r - (r' + 1)) = r by omega] at this
      omega
    · omega
end Go.Proofs.Ytemcdmjnokpldaa
/- Errors of tables, part 4: binomial coefficients, patterns of errors. -/
namespace Go.Proofs.Ytemcdmjnokpldaa
open Go.RowKit Go.Joins

theorem ch_along (m j : Nat) : ∀ d, ch (m + j) j ≤ ch (m + (j + d)) (j + d)
  | 0 => Nat.le_refl _
  | d + 1 => Nat.le_trans (ch_along m j d) (ch_dg (m + (j + d)) (j + d))
theorem cp_small {x : Nat} (h : x ≤ 1000000000000) : cp x = x := by unfold cp top; omega
theorem cp_great {x : Nat} (h : 1000000000000 < x) : cp x = top := by unfold cp top; omega
theorem bin_ch : ∀ n, n < 9 → ∀ k, k < 9 → binV n k = ch n k ∧ cp (ch n k) = ch n k ∧ ch n k ≤ 70 := by decide +kernel

/-- the code of an order and an error -/
def oc (a b : Int) : Int := if inB a 0 8 && inB b 0 1000000 then 0 else 2
theorem oc_ok {a b : Int} (h : oc a b = 0) : (0 ≤ a ∧ a ≤ 8) ∧ 0 ≤ b ∧ b ≤ 1000000 := by
  unfold oc at h
  split at h
  · rename_i h1
    rw [Bool.and_eq_true] at h1
    exact ⟨inB_iff.1 h1.1, inB_iff.1 h1.2⟩
  · cases h
theorem oc_cases (a b : Int) : oc a b = 0 ∨ oc a b = 2 := by
  unfold oc
  split
  · exact .inl rfl
  · exact .inr rfl
theorem oc_fst {a b : Int} (h : inB a 0 8 = false) : oc a b = 2 := by unfold oc; rw [h]; rfl
theorem oc_snd {a b : Int} (h : inB b 0 1000000 = false) : oc a b = 2 := by unfold oc; rw [h, Bool.and_false]; rfl
theorem oc_both {a b : Int} (h : inB a 0 8 = true) (h2 : inB b 0 1000000 = true) : oc a b = 0 := by unfold oc; rw [h, h2]; rfl

/-- how great the error of a difference can be -/
def dbV (a b : Int) : Int := if oc a b = 0 then b * ((2 ^ a.toNat : Nat) : Int) else 0
theorem shl_small (b : Int) (h0 : 0 ≤ b) (h1 : b ≤ 1000000) : ∀ n : Nat, n < 9 → wrap64 (b * 2 ^ n) = b * ((2 ^ n : Nat) : Int) := by
  intro n hn
  have e : (b * 2 ^ n : Int) = b * ((2 ^ n : Nat) : Int) := by rw [Int.natCast_pow]; rfl
  rw [e]
  have h2 : (2 : Nat) ^ n ≤ 256 := Nat.le_trans (Nat.pow_le_pow_right (by omega) (show n ≤ 8 by omega)) (by decide)
  generalize (2 : Nat) ^ n = x at *
  have h3 := abs_mul (a := b) (b := (x : Int)) (A := 1000000) (B := 256) (by omega) (by omega)
  exact IntWalk.wrap64_in _ ⟨by omega, by omega⟩
theorem ret2_int {a b : Int} {c : Value} (h : a = b) : Ending.returned (.tuple #[.int .i64 a, c]) = .returned (.tuple #[.int .i64 b, c]) := by rw [h]
/-- errors that make the error of a difference greatest -/
def wpf (n : Nat) (s : Int) (k : Nat) : Int := if (n - k) % 2 = 1 then -s else s
theorem wpf_wp (n : Nat) (s : Int) : wpf n s = fun k => s * wp n k := by
  funext k
  unfold wpf wp
  split <;> simp
theorem put_put (f : Nat → Int) (a : Nat) (x y : Int) : put (put f a x) a y = put f a y := by
  funext i
  show (if i = a then y else if i = a then x else f i) = if i = a then y else f i
  split <;> rfl
def upTo (k : Nat) (f : Nat → Int) : Nat → Int := fun i => if i < k then f i else 0
theorem upTo_put (k : Nat) (f : Nat → Int) (x : Int) (h : f k = x) : put (upTo k f) k x = upTo (k + 1) f := by
  funext i
  show (if i = k then x else if i < k then f i else 0) = if i < k + 1 then f i else 0
  by_cases e : i = k
  · subst e; rw [if_pos rfl, if_pos (by omega), h]
  · rw [if_neg e]
    by_cases e2 : i < k
    · rw [if_pos e2, if_pos (by omega)]
    · rw [if_neg e2, if_neg (by omega)]
end Go.Proofs.Ytemcdmjnokpldaa
/- Errors of tables, part 5: patterns of errors. -/
namespace Go.Proofs.Ytemcdmjnokpldaa
open Go.RowKit Go.Joins

/-- how an error spreads -/
def spf (n : Nat) (s : Int) (k : Nat) : Int := if k % 2 = 1 then -(s * ((ch n k : Nat) : Int)) else s * ((ch n k : Nat) : Int)
end Go.Proofs.Ytemcdmjnokpldaa
/- The draw 'one'. -/
namespace Go.Proofs.Ytemcdmjnokpldaa
open Go.RowKit Go.Joins

set_option maxHeartbeats 400000 in
theorem one_any (B g k : Nat) (bs : List UInt8) (n : Int) (w : World) (h : SrcAt w B g k bs) (hk : k < 4611686018427387900) :
    Calls Try.prog 76 #[.pointer (some ⟨g, 0, none⟩), .int .i64 n] w (DrawnB w B g (k + 2) bs) := by
  have H := Lib.hid h; clear h
  go_enter Try.func76, Try.ntmps76
  go_wp2_with fail
  refine (pick_any B g k bs n _ H.out (by omega)).mono ?_; rintro e w1 ⟨x, rfl, _, hs1, hg1⟩
  have Hs1 := Lib.hid hs1; clear hs1
  go_wp2_with fail
  go_ret
  exact ⟨_, rfl, Hs1.out, hg1⟩

end Go.Proofs.Ytemcdmjnokpldaa
/- Draws: one of some numbers is drawn. -/
namespace Go.Proofs.Ytemcdmjnokpldaa
open Go.RowKit Go.Joins

set_option maxHeartbeats 400000 in
theorem among_in (B g k m : Nat) (l : List Int) (bs : List UInt8) (w : World) (h : SrcAt w B g k bs) (hk : k < 4611686018427387800) (hm : l.length = m) (hm2 : 2 ≤ m) (hm3 : m ≤ 200) :
    Calls Try.prog 89 #[.pointer (some ⟨g, 0, none⟩), .slice (some ⟨w.heap.size, 0, none⟩) m m] (w.alloc (.cells (l.map (Value.int .i64)).toArray 2)) fun e w' => ∃ x : Int, x ∈ l ∧ e = .returned (.int .i64 x) ∧ SrcAt w' B g (k + 2) bs ∧ w.grownBy w' (some g) := by
  have hlt := h.lt
  have hbk := (Below.refl w.heap.size w).alloc (Nat.le_refl _) (.cells (l.map (Value.int .i64)).toArray 2)
  have hnc : ∀ i (hi : i < l.length), (w.alloc (.cells (l.map (Value.int .i64)).toArray 2)).cell? ⟨w.heap.size, i, none⟩ = some (.int .i64 l[i]) := fun i hi => by
    have := new_cells w (l.map (Value.int .i64)).toArray 2 i (.int .i64 l[i]) (by simp [hi])
    rwa [show (⟨w.heap.size, 0, none⟩ : Addr).add i = ⟨w.heap.size, i, none⟩ by unfold Addr.add; split <;> simp_all] at this
  have H := Lib.hid (h.below hbk); clear h
  have Hc := Lib.hid hnc; clear hnc
  have Hg := Lib.hid (fun w' (h : (w.alloc (.cells (l.map (Value.int .i64)).toArray 2)).grownBy w' (some g)) => grown_from_alloc h)
  have hsz : w.heap.size < (w.alloc (.cells (l.map (Value.int .i64)).toArray 2)).heap.size := by simp
  have hm4 : (m : Int) ≤ 200 := by omega
  clear hbk
  generalize w.alloc (.cells (l.map (Value.int .i64)).toArray 2) = wl at *
  go_enter Try.func89, Try.ntmps89
  go_wp2_with fail
  refine (pick_any B g k bs m _ H.out (by omega)).mono ?_; rintro e w1 ⟨x, rfl, ⟨hx0, hx1, _⟩, hs1, hg1⟩
  have Hs1 := Lib.hid hs1; clear hs1
  obtain ⟨i, rfl⟩ : ∃ i : Nat, x = i := ⟨x.toNat, by omega⟩
  have hx2 := hx1 (by omega)
  have hi : i < l.length := by omega
  have hcell := (World.cell?_of_block (a := ⟨w.heap.size, i, none⟩) (hg1.block w.heap.size hsz (fun e => by injection e; omega))).trans (Hc.out i hi)
  have hg2 := Hg.out _ hg1
  have hin := Lib.hid (show l[i] ∈ l from List.getElem_mem hi)
  generalize l[i] = z at *
  clear hx1 hg1
  go_wp2_with fail
  go_ret
  exact ⟨z, hin.out, rfl, Hs1.out, hg2⟩
end Go.Proofs.Ytemcdmjnokpldaa
/- Errors of tables, part 6: draws. -/
namespace Go.Proofs.Ytemcdmjnokpldaa
open Go.RowKit Go.Joins

theorem own_gs {wr w2 : World} {gs B n sz : Nat} {e : TypeId} {v : Value} {xs : List Value} (h : wr.ownsRow B e sz v n xs) (h2 : wr.grownBy w2 (some gs)) (hgs : gs < B) : w2.ownsRow B e sz v n xs :=
  h.kept h2 (.inr (fun e => by have := (h.lt gs e).1; omega))
theorem grown_own {w w1 w2 : World} {g n sz : Nat} {e : TypeId} {v : Value} {xs : List Value} (h : w.grownBy w1 (some g)) (ho : w1.ownsRow w.heap.size e sz v n xs) (h2 : w1.grownBy w2 v.ownBlock) : w.grownBy w2 (some g) :=
  ⟨h2.os.trans h.os, h2.tape.trans h.tape, h2.output.trans h.output, Nat.le_trans h.size h2.size, fun i hi hne => (h2.block i (Nat.lt_of_lt_of_le hi h.size) (fun e => by have := (ho.lt i e.symm).1; omega)).trans (h.block i hi hne)⟩
theorem grown_set (w' : World) (g i : Nat) (v : Value) : w'.grownBy (w'.setCell ⟨g, i, none⟩ v) (some g) :=
  ⟨rfl, rfl, rfl, by simp [World.setCell], fun i _ hi => Below.heap_setCell _ _ _ _ (fun e => hi (by rw [e]))⟩
theorem grown_refl (w : World) (r : Option Nat) : w.grownBy w r := ⟨rfl, rfl, rfl, Nat.le_refl _, fun _ _ _ => rfl⟩

def Drawn2 (w : World) (B g k : Nat) (bs : List UInt8) (e : Ending) (w' : World) : Prop :=
  ∃ x y, e = .returned (.tuple #[.int .i64 x, .int .i64 y]) ∧ SrcAt w' B g k bs ∧ w.grownBy w' (some g)
/-- a list is drawn -/
def DrawnL (M : Nat) (w : World) (B g k : Nat) (bs : List UInt8) (e : Ending) (w' : World) : Prop :=
  ∃ v n f, e = .returned v ∧ n ≤ M ∧ w'.ownsRow w.heap.size 2 1 v n (tab n f) ∧ SrcAt w' B g k bs ∧ w.grownBy w' (some g)
theorem tab_more (n : Nat) (f : Nat → Int) (x : Int) : ∃ f', tab (n + 1) f' = tab n f ++ [.int .i64 x] := ⟨fun i => if i < n then f i else x, by
  rw [tab_succ, if_neg (by omega)]
  congr 1
  exact tab_congr fun i hi => by rw [if_pos hi]⟩
end Go.Proofs.Ytemcdmjnokpldaa
/- Errors of tables, part 7: what the laws draw. -/
namespace Go.Proofs.Ytemcdmjnokpldaa
open Go.RowKit Go.Joins

theorem below_src {w w2 w3 : World} (hb : Below w.heap.size w w2) (hg : w2.grownBy w3 (some w.heap.size)) : Below w.heap.size w w3 := hb.grown hg hb.size (fun k hk => by cases hk; exact Nat.le_refl _)
/-- a list and a number are drawn -/
def RetDL (M : Nat) (w : World) (e : Ending) (w' : World) : Prop :=
  ∃ v n f x, e = .returned (.tuple #[v, .int .i64 x]) ∧ n ≤ M ∧ w'.ownsRow w.heap.size 2 1 v n (tab n f) ∧ Below w.heap.size w w'
def RetD2 (w : World) (e : Ending) (w' : World) : Prop :=
  ∃ x y, e = .returned (.tuple #[.int .i64 x, .int .i64 y]) ∧ Below w.heap.size w w'
def RetD3 (w : World) (e : Ending) (w' : World) : Prop :=
  ∃ x y z, e = .returned (.tuple #[.int .i64 x, .int .i64 y, .int .i64 z]) ∧ Below w.heap.size w w'

end Go.Proofs.Ytemcdmjnokpldaa
/- Finer tables, part 9: what the law draws. -/
namespace Go.Proofs.Ytemcdmjnokpldaa
open Go.RowKit Go.Joins

set_option maxRecDepth 100000 in
set_option maxHeartbeats 3200000 in
theorem l19DrawValues_c (B g k : Nat) (bs : List UInt8) (w : World) (h : SrcAt w B g k bs) (hk : k < 4611686018427380000) : Calls Try.prog 87 #[.pointer (some ⟨g, 0, none⟩)] w (DrawnL 7 w B g (k + 40) bs) := by
  have hgl := h.lt
  have hb0 := Lib.hid ((Below.refl w.heap.size w).alloc (Nat.le_refl _) (.cells #[] 2))
  have ho0 := Lib.hid (World.ownsRow_made (base := w.heap.size) (e := 2) (size := 1) w #[] 0 (Nat.le_refl _) (by simp [maxLen]) rfl)
  have Hb := Lib.hid (fun (w2 : World) (h2 : w.grownBy w2 (some g)) => And.intro (grown_below h2 ((Below.refl w2.heap.size w2).alloc (Nat.le_refl _) (.cells #[] 2))) (World.ownsRow_made (base := w.heap.size) (e := 2) (size := 1) w2 #[] 0 h2.size (by simp [maxLen]) rfl))
  have Hg0 := Lib.hid (grown_of_below hb0.out (some g))
  have Hs0 := Lib.hid (h.below hb0.out)
  clear h hb0
  go_enter Try.func87, Try.ntmps87
  go_wp2_with fail
  refine (pick_any B g k bs 6 _ Hs0.out (by omega)).mono ?_; rintro e w1 ⟨r, rfl, ⟨hr0, hr1, _⟩, hs1, hg1⟩
  have hr6 := hr1 (by omega)
  have Hs1 := Lib.hid hs1
  have Hg1 := Lib.hid (grown_trans Hg0.out hg1)
  have Ho1 := Lib.hid (own_gs ho0.out hg1 hgl)
  obtain ⟨m, rfl⟩ : ∃ m : Nat, r = (m : Int) := ⟨r.toNat, by omega⟩
  clear hs1 hg1 hr1 hr0
  go_wp2_with fail
  go_loopw [3, 4] (fun a i wr => ∃ (j q : Nat) (f : Nat → Int), j + q = m + 1 ∧ i = .int .i64 (q : Int) ∧ SrcAt wr B g (k + 2 + 2 * j) bs ∧ wr.ownsRow w.heap.size 2 1 a j (tab j f) ∧ w.grownBy wr (some g)) (fun _ i _ => (intOf i).toNat)
  case atStart => exact ⟨0, m + 1, fun _ => 0, by omega, by congr 1; omega, Hs1.out, Ho1.out, Hg1.out⟩
  case round =>
    obtain ⟨j, q, f, hjq, rfl, hs, hown, hg⟩ := hrel
    have Hs := Lib.hid hs
    have Hg := Lib.hid hg
    have hjm : j ≤ 6 := by omega
    by_cases hq : q = 0
    · subst hq
      obtain ⟨ga, ca, rfl, _, _⟩ := own_posC hown (by omega)
      have hj1 : 1 ≤ j := by omega
      have Hown := Lib.hid hown
      clear hs hown hg hjq
      go_wp2_with fail
      refine (pick_any B g (k + 2 + 2 * j) bs 24 _ Hs.out (by omega)).mono ?_; rintro e w2 ⟨x, rfl, _, hs2, hg2⟩
      have Hs2 := Lib.hid hs2
      have Hg2 := Lib.hid (grown_trans Hg.out hg2)
      have Ho2 := Lib.hid (own_gs Hown.out hg2 hgl)
      clear hs2 hg2
      by_cases c0 : x = 0
      · subst c0
        go_wp2_with fail
        refine (among_in B g (k + 2 + 2 * j + 2) 5 [-100001, -100000, 100000, 100001, -9223372036854775808] bs w2 Hs2.out (by omega) rfl (by omega) (by omega)).mono ?_; rintro e w3 ⟨y, _, rfl, hs3, hg3⟩
        have ho3 := own_gs Ho2.out hg3 hgl
        obtain ⟨d0, d1⟩ := own_cellD ho3 0 (by omega)
        have hga := (ho3.lt ga rfl).1
        have ho4 := (ho3.stored 0 (.int .i64 y)).1
        rw [tab_set] at ho4
        have Ho4 := Lib.hid ho4
        have Hs4 := Lib.hid (hs3.grown (grown_set w3 ga 0 (.int .i64 y)) (fun z hz => by cases hz; omega))
        have Hg4 := Lib.hid (grown_own (grown_trans Hg2.out hg3) ho3 (grown_set w3 ga 0 (.int .i64 y)))
        clear hs3 hg3 ho3 ho4
        go_wp2_with fail
        go_ret
        exact ⟨_, j, put f 0 y, rfl, by omega, Ho4.out, Hs4.out.more (by omega), Hg4.out⟩
      · have e0 : (x == 0) = false := by simp [c0]
        by_cases c1 : x = 1
        · subst c1
          go_wp2_with fail
          refine (pick_any B g (k + 2 + 2 * j + 2) bs 2 _ Hs2.out (by omega)).mono ?_; rintro e w3 ⟨y, rfl, ⟨hy0, hy1, _⟩, hs3, hg3⟩
          have hy2 := hy1 (by omega)
          obtain ⟨N, hN⟩ : ∃ N : Nat, 6 + y = (N : Int) := ⟨(6 + y).toNat, by omega⟩
          have hyw : IntKind.i64.wrap (6 + y) = (N : Int) := by rw [IntWalk.i64_in _ (by omega)]; exact hN
          have hN2 : N ≤ 7 := by omega
          obtain ⟨wm, hm, hom, hbm⟩ := mk_ints N (by omega) w3
          have Hsm := Lib.hid (hs3.below hbm)
          have Hgm := Lib.hid (grown_below (grown_trans Hg2.out hg3) hbm)
          have Hom := Lib.hid (ownsRow_le hom (Nat.le_trans Hg2.out.size hg3.size))
          clear hs3 hg3 hom hbm hy1
          go_wp2_with fail
          go_ret
          exact ⟨_, N, fun _ => 0, rfl, hN2, Hom.out, Hsm.out.more (by omega), Hgm.out⟩
        · have e1 : (x == 1) = false := by simp [c1]
          by_cases c2 : x = 2
          · subst c2
            have Hbw := Lib.hid (Hb.out w2 Hg2.out)
            have Hs3 := Lib.hid (Hs2.out.below ((Below.refl w2.heap.size w2).alloc (Nat.le_refl _) (.cells #[] 2)))
            go_wp2_with fail
            go_ret
            exact ⟨_, 0, fun _ => 0, rfl, by omega, Hbw.out.2, Hs3.out.more (by omega), Hbw.out.1⟩
          · have e2 : (x == 2) = false := by simp [c2]
            by_cases c3 : x = 3
            · subst c3
              go_wp2_with fail
              go_loopw [42] (fun i wr => ∃ (p : Nat) (f' : Nat → Int), p ≤ j ∧ i = .int .i64 (p : Int) ∧ SrcAt wr B g (k + 2 + 2 * j + 2 + 2 * p) bs ∧ wr.ownsRow w.heap.size 2 1 (.slice (some ⟨ga, 0, none⟩) j ca) j (tab j f') ∧ w.grownBy wr (some g)) (fun i _ => j - (intOf i).toNat)
              case atStart => exact ⟨0, f, by omega, rfl, Hs2.out, Ho2.out, Hg2.out⟩
              case round =>
                obtain ⟨p, f', hp, rfl, hs, hown, hg⟩ := hrel
                have Hs5 := Lib.hid hs
                have Hg5 := Lib.hid hg
                have Ho5 := Lib.hid hown
                clear hs hg hown
                by_cases hlt : p < j
                · have hlt' : (p : Int) < (j : Int) := by omega
                  rename World => wz
                  go_wp2_with fail
                  refine (among_in B g (k + 2 + 2 * j + 2 + 2 * p) 2 [-100000, 100000] bs _ Hs5.out (by omega) rfl (by omega) (by omega)).mono ?_; rintro e w6 ⟨y, _, rfl, hs6, hg6⟩
                  have ho6 := own_gs Ho5.out hg6 hgl
                  obtain ⟨d0, d1⟩ := own_cellD ho6 p (by omega)
                  have hga := (ho6.lt ga rfl).1
                  have ho7 := (ho6.stored p (.int .i64 y)).1
                  rw [tab_set] at ho7
                  have Ho7 := Lib.hid ho7
                  have Hs7 := Lib.hid (hs6.grown (grown_set w6 ga p (.int .i64 y)) (fun z hz => by cases hz; omega))
                  have Hg7 := Lib.hid (grown_own (grown_trans Hg5.out hg6) ho6 (grown_set w6 ga p (.int .i64 y)))
                  clear hs6 hg6 ho6 ho7
                  go_wp2_with fail
                  go_roundw
                  case rel => exact ⟨p + 1, put f' p y, by omega, by go_num, Hs7.out, Ho7.out, Hg7.out⟩
                  case measure => first | (simp [intOf]; done) | (simp [intOf]; omega)
                · have hlt' : (j : Int) ≤ (p : Int) := by omega
                  go_wp2_with fail
                  go_ret
                  exact ⟨_, j, f', rfl, by omega, Ho5.out, Hs5.out.more (by omega), Hg5.out⟩
            · have e3 : (x == 3) = false := by simp [c3]
              go_wp2_with fail
              go_ret
              exact ⟨_, j, f, rfl, by omega, Ho2.out, Hs2.out.more (by omega), Hg2.out⟩
    · obtain ⟨A3, c3, rfl⟩ := own_sl hown
      have Hown := Lib.hid hown
      have Hjq := Lib.hid hjq
      have hq' : (0 : Int) < (q : Int) := by omega
      have hq9 : (q : Int) ≤ 7 := by omega
      clear hs hown hg hjq
      go_wp2_with fail
      refine (pick_any B g (k + 2 + 2 * j) bs 400 _ Hs.out (by omega)).mono ?_; rintro e w2 ⟨x, rfl, ⟨hx0, hx1, _⟩, hs2, hg2⟩
      have hx400 := hx1 (by omega)
      have hxw : IntKind.i64.wrap (x - 100) = x - 100 := IntWalk.i64_in _ (by omega)
      have Hs2 := Lib.hid hs2
      have hg3 := grown_trans Hg.out hg2
      have Hg2 := Lib.hid hg3
      have hz2 := hg3.size
      have Ho2 := Lib.hid (own_gs Hown.out hg2 hgl)
      obtain ⟨f', hf'⟩ := tab_more j f (x - 100)
      have Hf' := Lib.hid hf'
      clear hs2 hg2 hg3 hf' hx1
      go_wp2_with (at_builtin; refine wpList_apd 49 2 _ 1 8 Try.underlying49 infoD rfl (by omega) _ _ rfl rfl w.heap.size _ j _ rfl Ho2.out #[.int .i64 (x - 100)] 1 1 rfl rfl (by simp [Value.oneCell']) (by simp [maxLen]; omega) (by omega) hz2 ?_; intro v7 w7 hown7 hg7; have Hg7 := Lib.hid (grown_own Hg2.out Ho2.out hg7); obtain ⟨A7, c7, rfl⟩ := own_sl hown7; have Hown7 := Lib.hid hown7; have Hs7 := Lib.hid (Hs2.out.grown hg7 (fun z hz => by have := (Ho2.out.lt z hz).1; omega)); clear hown7 hg7)
      go_roundw
      case rel => exact ⟨j + 1, q - 1, f', by have := Hjq.out; omega, by congr 1; omega, Hs7.out, by rw [Hf'.out]; exact Hown7.out, Hg7.out⟩
      case measure => simp [intOf]; omega
theorem l19DrawParts_c (B g k : Nat) (bs : List UInt8) (w : World) (h : SrcAt w B g k bs) (hk : k < 4611686018427387000) : Calls Try.prog 88 #[.pointer (some ⟨g, 0, none⟩)] w (Drawn w B g (k + 4) bs (fun _ => True)) := by
  have H := Lib.hid h
  clear h
  go_enter Try.func88, Try.ntmps88
  go_wp2_with fail
  refine (one_any B g k bs 10 _ H.out (by omega)).mono ?_; rintro e w1 ⟨x, rfl, hs1, hg1⟩
  have Hs1 := Lib.hid hs1
  have Hg1 := Lib.hid hg1
  clear hs1 hg1
  cases x with
  | true =>
    go_wp2_with fail
    refine (among_in B g (k + 2) 5 [-1, 0, 1, 20, 21] bs w1 Hs1.out (by omega) rfl (by omega) (by omega)).mono ?_; rintro e w2 ⟨x, _, rfl, hs2, hg2⟩
    have Hf := Lib.hid (And.intro hs2 (grown_trans Hg1.out hg2))
    clear hs2 hg2
    go_wp2_with fail
    go_ret
    exact ⟨x, rfl, trivial, Hf.out.1, Hf.out.2⟩
  | false =>
    go_wp2_with fail
    refine (pick_any B g (k + 2) bs 10 _ Hs1.out (by omega)).mono ?_; rintro e w2 ⟨x, rfl, _, hs2, hg2⟩
    have Hf := Lib.hid (And.intro hs2 (grown_trans Hg1.out hg2))
    clear hs2 hg2
    go_wp2_with fail
    go_ret
    exact ⟨_, rfl, trivial, Hf.out.1, Hf.out.2⟩
/-- a list and two numbers are drawn -/
def RetDL2 (M : Nat) (w : World) (e : Ending) (w' : World) : Prop :=
  ∃ v n f x y, e = .returned (.tuple #[v, .int .i64 x, .int .i64 y]) ∧ n ≤ M ∧ w'.ownsRow w.heap.size 2 1 v n (tab n f) ∧ Below w.heap.size w w'
def RetDL1 (M : Nat) (w : World) (e : Ending) (w' : World) : Prop :=
  ∃ v n f, e = .returned v ∧ n ≤ M ∧ w'.ownsRow w.heap.size 2 1 v n (tab n f) ∧ Below w.heap.size w w'
set_option maxRecDepth 100000 in
set_option maxHeartbeats 1600000 in
theorem DrawLeadingDifferences_c (B : Nat) (cv : Value) (bs : List UInt8) (w : World) (h : Rd w B cv bs.length 1 (bs.map byV)) (hB : B ≤ w.heap.size) : Calls Try.prog 33 #[cv] w (RetDL1 7 w) := by
  have HF := Lib.hid (l00From_any B cv bs w h hB)
  obtain ⟨A, c, rfl⟩ := rd_sl h
  clear h
  go_enter Try.func33, Try.ntmps33
  go_wp2_with fail
  refine HF.out.mono ?_; rintro e w1 ⟨rfl, hs1, hb1, hlt⟩
  have Hs1 := Lib.hid hs1
  have Hb1 := Lib.hid hb1
  clear hs1 hb1
  go_wp2_with fail
  refine (l19DrawValues_c B w.heap.size 0 bs _ Hs1.out (by omega)).mono ?_; rintro e w2 ⟨v, n, f, rfl, hn, ho2, hs2, hg2⟩
  obtain ⟨A2, c2, rfl⟩ := own_sl ho2
  have Hs2 := Lib.hid hs2
  have Ho2 := Lib.hid ho2
  have Hb2 := Lib.hid (below_src Hb1.out hg2)
  clear hs2 hg2 ho2
  go_wp2_with fail
  go_ret
  exact ⟨_, n, f, rfl, hn, ownsRow_le Ho2.out (Nat.le_of_lt hlt), Hb2.out⟩
set_option maxRecDepth 100000 in
set_option maxHeartbeats 1600000 in
theorem DrawFinerDifferences_c (B : Nat) (cv : Value) (bs : List UInt8) (w : World) (h : Rd w B cv bs.length 1 (bs.map byV)) (hB : B ≤ w.heap.size) : Calls Try.prog 30 #[cv] w (RetDL 7 w) := by
  have HF := Lib.hid (l00From_any B cv bs w h hB)
  obtain ⟨A, c, rfl⟩ := rd_sl h
  clear h
  go_enter Try.func30, Try.ntmps30
  go_wp2_with fail
  refine HF.out.mono ?_; rintro e w1 ⟨rfl, hs1, hb1, hlt⟩
  have Hs1 := Lib.hid hs1
  have Hb1 := Lib.hid hb1
  clear hs1 hb1
  go_wp2_with fail
  refine (l19DrawValues_c B w.heap.size 0 bs _ Hs1.out (by omega)).mono ?_; rintro e w2 ⟨v, n, f, rfl, hn, ho2, hs2, hg2⟩
  obtain ⟨A2, c2, rfl⟩ := own_sl ho2
  have Hs2 := Lib.hid hs2
  have Ho2 := Lib.hid ho2
  have Hb2 := Lib.hid (below_src Hb1.out hg2)
  clear hs2 hg2 ho2
  go_wp2_with fail
  refine (l19DrawParts_c B w.heap.size _ bs _ Hs2.out (by omega)).mono ?_; rintro e w3 ⟨y, rfl, _, hs3, hg3⟩
  have Hs3 := Lib.hid hs3
  have Hb3 := Lib.hid (below_src Hb2.out hg3)
  have Ho3 := Lib.hid (own_gs Ho2.out hg3 hlt)
  clear hs3 hg3
  go_wp2_with fail
  go_ret2
  exact ⟨_, n, f, y, rfl, hn, ownsRow_le Ho3.out (Nat.le_of_lt hlt), Hb3.out⟩
set_option maxRecDepth 100000 in
set_option maxHeartbeats 1600000 in
theorem DrawFinerTable_c (B : Nat) (cv : Value) (bs : List UInt8) (w : World) (h : Rd w B cv bs.length 1 (bs.map byV)) (hB : B ≤ w.heap.size) : Calls Try.prog 24 #[cv] w (RetDL2 7 w) := by
  have HF := Lib.hid (l00From_any B cv bs w h hB)
  obtain ⟨A, c, rfl⟩ := rd_sl h
  clear h
  go_enter Try.func24, Try.ntmps24
  go_wp2_with fail
  refine HF.out.mono ?_; rintro e w1 ⟨rfl, hs1, hb1, hlt⟩
  have Hs1 := Lib.hid hs1
  have Hb1 := Lib.hid hb1
  clear hs1 hb1
  go_wp2_with fail
  refine (l19DrawValues_c B w.heap.size 0 bs _ Hs1.out (by omega)).mono ?_; rintro e w2 ⟨v, n, f, rfl, hn, ho2, hs2, hg2⟩
  obtain ⟨A2, c2, rfl⟩ := own_sl ho2
  have Hs2 := Lib.hid hs2
  have Ho2 := Lib.hid ho2
  have Hb2 := Lib.hid (below_src Hb1.out hg2)
  clear hs2 hg2 ho2
  go_wp2_with fail
  refine (l19DrawParts_c B w.heap.size _ bs _ Hs2.out (by omega)).mono ?_; rintro e w3 ⟨y, rfl, _, hs3, hg3⟩
  have Hs3 := Lib.hid hs3
  have Hb3 := Lib.hid (below_src Hb2.out hg3)
  have Ho3 := Lib.hid (own_gs Ho2.out hg3 hlt)
  clear hs3 hg3
  go_wp2_with fail
  refine (pick_any B w.heap.size _ bs 30 _ Hs3.out (by omega)).mono ?_; rintro e w4 ⟨z, rfl, ⟨hz0, hz1, _⟩, hs4, hg4⟩
  have hzz := hz1 (by omega)
  have Hs4 := Lib.hid hs4
  have Hb4 := Lib.hid (below_src Hb3.out hg4)
  have Ho4 := Lib.hid (own_gs Ho3.out hg4 hlt)
  clear hs4 hg4 hz1
  go_wp2_with fail
  refine (one_any B w.heap.size _ bs 12 _ Hs4.out (by omega)).mono ?_; rintro e w5 ⟨b, rfl, hs5, hg5⟩
  have Hs5 := Lib.hid hs5
  have Hb5 := Lib.hid (below_src Hb4.out hg5)
  have Ho5 := Lib.hid (own_gs Ho4.out hg5 hlt)
  clear hs5 hg5
  cases b with
  | false =>
    go_wp2_with fail
    go_ret3
    exact ⟨_, n, f, y, z, rfl, hn, ownsRow_le Ho5.out (Nat.le_of_lt hlt), Hb5.out⟩
  | true =>
    go_wp2_with fail
    refine (among_in B w.heap.size _ 4 [-1, 0, 120, 121] bs w5 Hs5.out (by omega) rfl (by omega) (by omega)).mono ?_; rintro e w6 ⟨z, _, rfl, hs6, hg6⟩
    have Hb6 := Lib.hid (below_src Hb5.out hg6)
    have Ho6 := Lib.hid (own_gs Ho5.out hg6 hlt)
    clear hs6 hg6
    go_wp2_with fail
    go_ret3
    exact ⟨_, n, f, y, z, rfl, hn, ownsRow_le Ho6.out (Nat.le_of_lt hlt), Hb6.out⟩
set_option maxRecDepth 100000 in
set_option maxHeartbeats 1600000 in
theorem DrawValueBetween_c (B : Nat) (cv : Value) (bs : List UInt8) (w : World) (h : Rd w B cv bs.length 1 (bs.map byV)) (hB : B ≤ w.heap.size) : Calls Try.prog 27 #[cv] w (RetDL2 7 w) := by
  have HF := Lib.hid (l00From_any B cv bs w h hB)
  obtain ⟨A, c, rfl⟩ := rd_sl h
  clear h
  go_enter Try.func27, Try.ntmps27
  go_wp2_with fail
  refine HF.out.mono ?_; rintro e w1 ⟨rfl, hs1, hb1, hlt⟩
  have Hs1 := Lib.hid hs1
  have Hb1 := Lib.hid hb1
  clear hs1 hb1
  go_wp2_with fail
  refine (l19DrawValues_c B w.heap.size 0 bs _ Hs1.out (by omega)).mono ?_; rintro e w2 ⟨v, n, f, rfl, hn, ho2, hs2, hg2⟩
  obtain ⟨A2, c2, rfl⟩ := own_sl ho2
  have Hs2 := Lib.hid hs2
  have Ho2 := Lib.hid ho2
  have Hb2 := Lib.hid (below_src Hb1.out hg2)
  clear hs2 hg2 ho2
  go_wp2_with fail
  refine (l19DrawParts_c B w.heap.size _ bs _ Hs2.out (by omega)).mono ?_; rintro e w3 ⟨y, rfl, _, hs3, hg3⟩
  have Hs3 := Lib.hid hs3
  have Hb3 := Lib.hid (below_src Hb2.out hg3)
  have Ho3 := Lib.hid (own_gs Ho2.out hg3 hlt)
  clear hs3 hg3
  go_wp2_with fail
  refine (pick_any B w.heap.size _ bs 80 _ Hs3.out (by omega)).mono ?_; rintro e w4 ⟨z, rfl, ⟨hz0, hz1, _⟩, hs4, hg4⟩
  have hzz := hz1 (by omega)
  have hzw : IntKind.i64.wrap (z - 20) = z - 20 := IntWalk.i64_in _ (by omega)
  have Hs4 := Lib.hid hs4
  have Hb4 := Lib.hid (below_src Hb3.out hg4)
  have Ho4 := Lib.hid (own_gs Ho3.out hg4 hlt)
  clear hs4 hg4 hz1
  go_wp2_with fail
  refine (one_any B w.heap.size _ bs 12 _ Hs4.out (by omega)).mono ?_; rintro e w5 ⟨b, rfl, hs5, hg5⟩
  have Hs5 := Lib.hid hs5
  have Hb5 := Lib.hid (below_src Hb4.out hg5)
  have Ho5 := Lib.hid (own_gs Ho4.out hg5 hlt)
  clear hs5 hg5
  cases b with
  | false =>
    go_wp2_with fail
    go_ret3
    exact ⟨_, n, f, z - 20, y, rfl, hn, ownsRow_le Ho5.out (Nat.le_of_lt hlt), Hb5.out⟩
  | true =>
    go_wp2_with fail
    refine (among_in B w.heap.size _ 5 [-121, -120, 120, 121, -9223372036854775808] bs w5 Hs5.out (by omega) rfl (by omega) (by omega)).mono ?_; rintro e w6 ⟨z, _, rfl, hs6, hg6⟩
    have Hb6 := Lib.hid (below_src Hb5.out hg6)
    have Ho6 := Lib.hid (own_gs Ho5.out hg6 hlt)
    clear hs6 hg6
    go_wp2_with fail
    go_ret3
    exact ⟨_, n, f, z, y, rfl, hn, ownsRow_le Ho6.out (Nat.le_of_lt hlt), Hb6.out⟩
end Go.Proofs.Ytemcdmjnokpldaa
/- Lists of texts: equality on three functions, the room that they take, copies. -/
namespace Go.Proofs.Ytemcdmjnokpldaa
open Go.RowKit Go.Joins

def strs (l : List ByteArray) : List Value := l.map Value.string
theorem strs_at (l : List ByteArray) (k : Nat) (h : k < l.length) : (strs l)[k]? = some (.string l[k]) := by simp [strs, h]
theorem infoSL : (Try.prog.info? 9).map (fun i => (i.zero, i.size, i.bytes)) = some (some (.string ⟨#[]⟩), 1, 16) := by kernel_rfl
theorem take_strs (zs : List ByteArray) (k : Nat) (h : k < zs.length) : strs (zs.take k) ++ [.string zs[k]] = strs (zs.take (k + 1)) := by
  rw [List.take_succ_eq_append_getElem h]; unfold strs; rw [List.map_append]; rfl
theorem rd_at {w : World} {B n c : Nat} {A : Option Addr} {zs : List ByteArray} (h : Rd w B (.slice A n c) zs.length 1 (strs zs)) (k : Nat) (hk : k < zs.length) :
    n = zs.length ∧ ∃ b off, A = some ⟨b, off, none⟩ ∧ w.cell? ⟨b, off + k, none⟩ = some (.string zs[k]) := by
  obtain ⟨_, A', c', hv, hc⟩ := h
  injection hv with e1 e2 e3
  subst e1
  obtain ⟨b, off, hA, _, hcc⟩ := hc (by omega)
  exact ⟨e2, b, off, hA, hcc k _ (strs_at zs k hk)⟩

/-- a new list of the same strings -/
def RetS (w : World) (zs : List ByteArray) (e : Ending) (w' : World) : Prop := ∃ v, e = .returned v ∧ w'.ownsRow w.heap.size 9 1 v zs.length (strs zs) ∧ Below w.heap.size w w'

end Go.Proofs.Ytemcdmjnokpldaa
/- What a law's arguments read as, in the words of the walks: slices of numbers, of bytes. -/
namespace Go.Proofs.Ytemcdmjnokpldaa
open Go.ChangeShapes Go.WideShapes Go.ChangeAt Go.RowKit

section
variable {H : Type} {enc : TypeId × Value → H} {P : Program} {W : World}

theorem rd_ints {T E base : Nat} {k : IntKind} {r : Reach} {v : Value} {d : DataW H} {p : List MemPlace} (hT : P.underlying T = some (.slice E)) (hE : P.underlying E = some (.int k)) (hC : P.cellsOf E = 1)
    (ok : Value.okWide P W r base T v) (h : DataW.Trod enc P W 0 (fun _ => true) true T v d p) :
    ∃ zs : List Int, Rd W W.heap.size v zs.length 1 (zs.map (.int k)) ∧ zs.length ≤ maxLen ∧ ∀ z ∈ zs, (Lit.int k z).wf = true := by
  obtain ⟨a0, len, cap, rfl⟩ := okWide_slice hT ok
  obtain ⟨fuel, hf⟩ := h
  rcases open_ints hT hE hC hf with ⟨hcs, hx⟩ | ⟨a, len', cap', zs, hcs, _, hl, hm, hz, hx, hcell, hwz⟩
  · simp [Value.cells] at hcs
    obtain ⟨rfl, rfl, rfl⟩ := hcs
    exact ⟨[], ⟨rfl, none, 0, rfl, fun h => by simp at h⟩, by simp [maxLen], by simp⟩
  · simp [Value.cells] at hcs
    obtain ⟨rfl, rfl, rfl⟩ := hcs
    have hz' : zs.length = cap := by simpa using hz
    have hlen : (zs.take len).length = len := by rw [List.length_take]; omega
    refine ⟨zs.take len, ?_, by rw [hlen]; omega, fun z hzz => hwz z (List.mem_of_mem_take hzz)⟩
    rw [hlen]
    refine ⟨by simp; omega, some a, cap, rfl, fun hn => ?_⟩
    obtain ⟨b, off, rfl, hc⟩ := ints_at hcell (by omega)
    refine ⟨b, off, rfl, World.block_lt_of_cell? W _ (hc 0 (by omega)), fun i u hu => ?_⟩
    have hi : i < len := by
      have := (List.getElem?_eq_some_iff.1 hu).1
      simp at this; omega
    rw [hc i (by omega), ← hu]
    simp [hi, List.getD, (show i < zs.length by omega)]

theorem rd_bytes {T E base : Nat} {r : Reach} {v : Value} {d : DataW H} {p : List MemPlace} (hT : P.underlying T = some (.slice E)) (hE : P.underlying E = some (.int .u8)) (hC : P.cellsOf E = 1)
    (ok : Value.okWide P W r base T v) (h : DataW.Trod enc P W 0 (fun _ => true) true T v d p) :
    ∃ bs : List UInt8, Rd W W.heap.size v bs.length 1 (bs.map byV) ∧ bs.length ≤ maxLen := by
  obtain ⟨zs, h1, h2, h3⟩ := rd_ints hT hE hC ok h
  refine ⟨zs.map fun z => UInt8.ofNat z.toNat, ?_, by simpa using h2⟩
  have e : (zs.map fun z => UInt8.ofNat z.toNat).map byV = zs.map (.int .u8) := by
    rw [List.map_map]
    refine List.map_congr_left fun z hz => ?_
    have hb := bounds_u8 (h3 z hz)
    simp only [Function.comp, byV, UInt8.toNat_ofNat']
    congr 1
    omega
  rw [e]
  simpa using h1
end
end Go.Proofs.Ytemcdmjnokpldaa
/- What a law's arguments read as: slices of structs, as rows of cells. -/
namespace Go.Proofs.Ytemcdmjnokpldaa
open Go.ChangeShapes Go.WideShapes Go.ChangeAt Go.RowKit

/-- rows of equal width: cell j of row k -/
theorem flat_at {α : Type} (cells : α → List Value) (sz : Nat) (hc : ∀ x, (cells x).length = sz) : ∀ (xs : List α) (k j : Nat) (hk : k < xs.length), j < sz → (xs.flatMap cells)[k * sz + j]? = (cells xs[k])[j]?
  | [], k, j, hk, _ => by simp at hk
  | x :: xs, 0, j, _, hj => by
    rw [List.flatMap_cons, Nat.zero_mul, Nat.zero_add, List.getElem?_append_left (by rw [hc]; exact hj)]; rfl
  | x :: xs, k + 1, j, hk, hj => by
    rw [List.flatMap_cons, List.getElem?_append_right (by rw [hc, Nat.succ_mul]; omega), hc]
    have e : (k + 1) * sz + j - sz = k * sz + j := by rw [Nat.succ_mul]; omega
    rw [e, flat_at cells sz hc xs k j (by simpa using hk) hj]
    simp
theorem flat_len {α : Type} (cells : α → List Value) (sz : Nat) (hc : ∀ x, (cells x).length = sz) : ∀ xs : List α, (xs.flatMap cells).length = xs.length * sz
  | [] => by simp
  | x :: xs => by
    rw [List.flatMap_cons, List.length_append, hc, flat_len cells sz hc xs, List.length_cons, Nat.succ_mul]; omega

section
variable {H : Type} {enc : TypeId × Value → H} {P : Program} {W : World}

theorem rd_rows {α : Type} (cells : α → List Value) (good : α → Prop) {T E base sz : Nat} {r : Reach} {v : Value} {d : DataW H} {p : List MemPlace} (hT : P.underlying T = some (.slice E)) (hC : P.cellsOf E = sz) (hsz : 0 < sz) (hc : ∀ x, (cells x).length = sz)
    (elem : ∀ n cs y, DataW.trod enc P W 0 (fun _ => true) true n E cs = some y → ∃ x, cs = cells x ∧ good x)
    (ok : Value.okWide P W r base T v) (h : DataW.Trod enc P W 0 (fun _ => true) true T v d p) :
    ∃ xs : List α, Rd W W.heap.size v xs.length sz (xs.flatMap cells) ∧ xs.length ≤ maxLen ∧ ∀ x ∈ xs, good x := by
  obtain ⟨a0, len, cap, rfl⟩ := okWide_slice hT ok
  obtain ⟨fuel, hf⟩ := h
  rcases Go.Deep.open_slice hT hf with ⟨hcs, hx⟩ | ⟨a, len', cap', m, n, D, Pl, hcs, _, hl, hm, hmm, hx, hi⟩
  · simp [Value.cells] at hcs
    obtain ⟨rfl, rfl, rfl⟩ := hcs
    exact ⟨[], ⟨by simp, none, 0, rfl, fun h => by simp at h⟩, by simp [maxLen], by simp⟩
  · simp [Value.cells] at hcs
    obtain ⟨rfl, rfl, rfl⟩ := hcs
    have hm' : m = cap := by simpa using hmm
    subst hm'
    have hel : ∀ i : Nat, i < m → ∃ x, good x ∧ W.cells? 0 (a.add (i * sz)) sz = some (cells x) := fun i hi' => by
      obtain ⟨cs', h1, h2⟩ := hi i hi'
      obtain ⟨x, rfl, hg⟩ := elem _ _ _ h2
      rw [hC] at h1
      exact ⟨x, hg, h1⟩
    have hch : ∃ f : Fin len → α, ∀ i : Fin len, good (f i) ∧ W.cells? 0 (a.add (i * sz)) sz = some (cells (f i)) :=
      ⟨fun i => Classical.choose (hel i (by have := i.2; omega)), fun i => Classical.choose_spec (hel i (by have := i.2; omega))⟩
    obtain ⟨f, hff⟩ := hch
    have hlen : (List.ofFn f).length = len := List.length_ofFn
    refine ⟨List.ofFn f, ?_, by rw [hlen]; omega, fun x hx => ?_⟩
    · rw [hlen]
      refine ⟨by rw [flat_len cells sz hc, hlen], some a, m, rfl, fun hn => ?_⟩
      have hl0 : 0 < len := by
        rcases Nat.eq_zero_or_pos len with h | h
        · subst h; simp at hn
        · exact h
      have hcell : ∀ (k : Nat) (hk : k < len) (j : Nat), j < sz → W.cell? ((a.add (k * sz)).add j) = (cells (f ⟨k, hk⟩))[j]? := fun k hk j hj =>
        (World.cells?_some (hff ⟨k, hk⟩).2).2.2 j hj
      obtain ⟨b, off, spot⟩ := a
      have h00 := hcell 0 hl0 0 hsz
      rw [List.getElem?_eq_getElem (by rw [hc]; exact hsz)] at h00
      have hspot : spot = none := by simpa [Addr.add] using World.cell?_spot h00
      subst hspot
      have hadd : ∀ k j, ((⟨b, off, none⟩ : Addr).add (k * sz)).add j = ⟨b, off + (k * sz + j), none⟩ := fun k j => by
        rw [Go.WideShapes.add_plain, Go.WideShapes.add_plain, Nat.add_assoc]
      rw [hadd] at h00
      refine ⟨b, off, rfl, World.block_lt_of_cell? W _ h00, fun i u hu => ?_⟩
      have hil : i < len * sz := by
        have := (List.getElem?_eq_some_iff.1 hu).1
        rwa [flat_len cells sz hc, hlen] at this
      have hk : i / sz < len := by rw [Nat.div_lt_iff_lt_mul hsz]; exact hil
      have hj : i % sz < sz := Nat.mod_lt _ hsz
      have hdm : i / sz * sz + i % sz = i := by rw [Nat.mul_comm]; exact Nat.div_add_mod i sz
      have h1 := hcell (i / sz) hk (i % sz) hj
      rw [hadd, hdm] at h1
      have h2 := flat_at cells sz hc (List.ofFn f) (i / sz) (i % sz) (by rw [hlen]; exact hk) hj
      rw [hdm, List.getElem_ofFn] at h2
      rw [h1, ← h2, hu]
    · obtain ⟨i, rfl⟩ := List.mem_ofFn.1 hx
      exact (hff i).1
end
end Go.Proofs.Ytemcdmjnokpldaa
/- Entries, part 1: how lists of entries lie; the exact laws' helpers. -/
namespace Go.Proofs.Ytemcdmjnokpldaa
open Go.RowKit Go.Joins

structure Ent where
  num : Int
  name : ByteArray
  maker : ByteArray
  year : Int
  words : List ByteArray
deriving DecidableEq

/-- an entry's cells; the second part is the value of its words -/
def cellsE (x : Ent × Value) : List Value := [.int .i64 x.1.num, .string x.1.name, .string x.1.maker, .int .i64 x.1.year, x.2]
def RdW (w : World) (B : Nat) (y : Ent × Value) : Prop := Rd w B y.2 y.1.words.length 1 (strs y.1.words)
/-- THE READING OF A LIST OF ENTRIES -/
def RdE (w : World) (B : Nat) (v : Value) (xs : List Ent) : Prop :=
  ∃ ys : List (Ent × Value), ys.map (·.1) = xs ∧ Rd w B v xs.length 5 (ys.flatMap cellsE) ∧ ∀ y ∈ ys, RdW w B y
theorem RdE.below {w w' : World} {B : Nat} {v : Value} {xs : List Ent} (h : RdE w B v xs) (hb : Below B w w') : RdE w' B v xs := by
  obtain ⟨ys, h1, h2, h3⟩ := h
  exact ⟨ys, h1, h2.below hb, fun y hy => (h3 y hy).below hb⟩
theorem RdE.more {w : World} {B B' : Nat} {v : Value} {xs : List Ent} (h : RdE w B v xs) (hB : B ≤ B') : RdE w B' v xs := by
  obtain ⟨ys, h1, h2, h3⟩ := h
  exact ⟨ys, h1, h2.more hB, fun y hy => (h3 y hy).more hB⟩
theorem RdE.next {w w' : World} {v : Value} {xs : List Ent} (h : RdE w w.heap.size v xs) (hb : Below w.heap.size w w') : RdE w' w'.heap.size v xs := (h.below hb).more hb.size
theorem RdE.drewN {w : World} {B : Nat} {v : Value} {xs : List Ent} (h : RdE w B v xs) (n : Nat) : RdE (w.drewN n) B v xs := h
theorem RdE.slice {w : World} {B : Nat} {v : Value} {xs : List Ent} (h : RdE w B v xs) : ∃ A c, v = .slice A xs.length c := by
  obtain ⟨ys, h1, ⟨_, A, c, h2, _⟩, h3⟩ := h
  exact ⟨A, c, h2⟩

/-- the five cells of an entry -/
structure EntAt (w : World) (B b o : Nat) (x : Ent) (A : Option Addr) (c : Nat) : Prop where
  lt : b < B
  c0 : w.cell? ⟨b, o, none⟩ = some (.int .i64 x.num)
  c1 : w.cell? ⟨b, o + 1, none⟩ = some (.string x.name)
  c2 : w.cell? ⟨b, o + 2, none⟩ = some (.string x.maker)
  c3 : w.cell? ⟨b, o + 3, none⟩ = some (.int .i64 x.year)
  c4 : w.cell? ⟨b, o + 4, none⟩ = some (.slice A x.words.length c)
  words : Rd w B (.slice A x.words.length c) x.words.length 1 (strs x.words)
theorem EntAt.below {w w' : World} {B b o c : Nat} {x : Ent} {A : Option Addr} (h : EntAt w B b o x A c) (hb : Below B w w') : EntAt w' B b o x A c :=
  ⟨h.lt, (hb.cell (p := ⟨b, o, none⟩) h.lt).trans h.c0, (hb.cell (p := ⟨b, o + 1, none⟩) h.lt).trans h.c1, (hb.cell (p := ⟨b, o + 2, none⟩) h.lt).trans h.c2, (hb.cell (p := ⟨b, o + 3, none⟩) h.lt).trans h.c3, (hb.cell (p := ⟨b, o + 4, none⟩) h.lt).trans h.c4, h.words.below hb⟩
theorem EntAt.drewN {w : World} {B b o c : Nat} {x : Ent} {A : Option Addr} (h : EntAt w B b o x A c) (n : Nat) : EntAt (w.drewN n) B b o x A c := ⟨h.1, h.2, h.3, h.4, h.5, h.6, h.7⟩

theorem RdE.at {w : World} {B n c : Nat} {A : Option Addr} {xs : List Ent} (h : RdE w B (.slice A n c) xs) (k : Nat) (hk : k < xs.length) :
    ∃ b off A' c', A = some ⟨b, off, none⟩ ∧ EntAt w B b (off + k * 5) xs[k] A' c' := by
  obtain ⟨ys, h1, ⟨_, A0, c0, hv, hc⟩, h3⟩ := h
  subst h1
  injection hv with e1 e2 e3
  subst e1
  rw [List.length_map] at hk hc
  obtain ⟨b, off, hA, hb, hcc⟩ := hc (by omega)
  have hw := h3 ys[k] (List.getElem_mem hk)
  obtain ⟨_, A', c', hv', _⟩ := id hw
  have hx : (ys.map (·.1))[k]'(by simpa using hk) = ys[k].1 := by simp
  rw [hx]
  have hat : ∀ j u, j < 5 → (cellsE ys[k])[j]? = some u → w.cell? ⟨b, off + k * 5 + j, none⟩ = some u := fun j u hj hu => by
    have := hcc (k * 5 + j) u ((flat_at cellsE 5 (fun _ => rfl) ys k j hk hj).trans hu)
    rwa [← Nat.add_assoc] at this
  refine ⟨b, off, A', c', hA, ⟨hb, hat 0 _ (by omega) rfl, hat 1 _ (by omega) rfl, hat 2 _ (by omega) rfl, hat 3 _ (by omega) rfl, ?_, ?_⟩⟩
  · rw [← hv']; exact hat 4 _ (by omega) rfl
  · rw [← hv']; exact hw

/-- five cells of a block that is the call's own -/
theorem blk5 {w : World} {g : Nat} {a b c d e : Value} {t : TypeId} (h : w.heap[g]? = some (.cells #[a, b, c, d, e] t (0, 0))) :
    w.cell? ⟨g, 0, none⟩ = some a ∧ w.cell? ⟨g, 1, none⟩ = some b ∧ w.cell? ⟨g, 2, none⟩ = some c ∧ w.cell? ⟨g, 3, none⟩ = some d ∧ w.cell? ⟨g, 4, none⟩ = some e ∧ ∀ i, w.frozen? ⟨g, i, none⟩ = false := by
  refine ⟨?_, ?_, ?_, ?_, ?_, fun i => ?_⟩
  · rw [cell_of_row w g 0 _ _ _ h]; rfl
  · rw [cell_of_row w g 1 _ _ _ h]; rfl
  · rw [cell_of_row w g 2 _ _ _ h]; rfl
  · rw [cell_of_row w g 3 _ _ _ h]; rfl
  · rw [cell_of_row w g 4 _ _ _ h]; rfl
  · exact frozen_of_row w g i _ _ h

end Go.Proofs.Ytemcdmjnokpldaa
/- Entries, part 2: copies, equality and room of lists of entries; the reading of an argument. -/
namespace Go.Proofs.Ytemcdmjnokpldaa
open Go.RowKit Go.Joins

theorem set5 (l r : List Value) (n : Nat) (hn : l.length = n) (hr : 5 ≤ r.length) (a b c d e : Value) :
    (((((l ++ r).set n a).set (n + 1) b).set (n + 2) c).set (n + 3) d).set (n + 4) e = (l ++ [a, b, c, d, e]) ++ r.drop 5 := by
  subst hn
  match r, hr with
  | x0 :: x1 :: x2 :: x3 :: x4 :: r, _ =>
    rw [List.set_append_right _ _ (Nat.le_refl _), List.set_append_right _ _ (by omega), List.set_append_right _ _ (by omega), List.set_append_right _ _ (by omega), List.set_append_right _ _ (by omega)]
    simp

theorem Rd.of_own' {w : World} {base : Nat} {e : TypeId} {sz n : Nat} {v : Value} {cs : List Value} (h : w.ownsRow base e sz v n cs) : Rd w w.heap.size v n sz cs := Rd.of_own h

end Go.Proofs.Ytemcdmjnokpldaa
/- Entries, part 3: equality and room of entries; the reading of an argument. -/
namespace Go.Proofs.Ytemcdmjnokpldaa
open Go.RowKit Go.Joins

/-- an entry as a value -/
abbrev aggE (x : Ent) (A : Option Addr) (c : Nat) : Value := .agg #[.int .i64 x.num, .string x.name, .string x.maker, .int .i64 x.year, .slice A x.words.length c]

/-- the ten cells of two entries -/
theorem EntAt.ten {w : World} {B1 B2 b1 o1 b2 o2 c1 c2 : Nat} {x y : Ent} {A1 A2 : Option Addr} (h : EntAt w B1 b1 o1 x A1 c1) (k : EntAt w B2 b2 o2 y A2 c2) :
    w.cell? ⟨b1, o1, none⟩ = some (.int .i64 x.num) ∧ w.cell? ⟨b1, o1 + 1, none⟩ = some (.string x.name) ∧ w.cell? ⟨b1, o1 + 2, none⟩ = some (.string x.maker) ∧ w.cell? ⟨b1, o1 + 3, none⟩ = some (.int .i64 x.year) ∧ w.cell? ⟨b1, o1 + 4, none⟩ = some (.slice A1 x.words.length c1) ∧
    w.cell? ⟨b2, o2, none⟩ = some (.int .i64 y.num) ∧ w.cell? ⟨b2, o2 + 1, none⟩ = some (.string y.name) ∧ w.cell? ⟨b2, o2 + 2, none⟩ = some (.string y.maker) ∧ w.cell? ⟨b2, o2 + 3, none⟩ = some (.int .i64 y.year) ∧ w.cell? ⟨b2, o2 + 4, none⟩ = some (.slice A2 y.words.length c2) :=
  ⟨h.c0, h.c1, h.c2, h.c3, h.c4, k.c0, k.c1, k.c2, k.c3, k.c4⟩

/-- all that an argument's entries are -/
def lenE (x : Ent) : Prop := x.name.size ≤ maxLen ∧ x.maker.size ≤ maxLen ∧ x.words.length ≤ maxLen ∧ ∀ z ∈ x.words, z.size ≤ maxLen
/-- small enough -/
def smE (x : Ent) : Prop := x.name.size ≤ 1048576 ∧ x.maker.size ≤ 1048576 ∧ x.words.length ≤ 1048576 ∧ ∀ z ∈ x.words, z.size ≤ 1048576
def SzE (x : Ent) (left : Int) (w : World) (e : Ending) (w' : World) : Prop := ∃ r : Int, e = .returned (.int .i64 r) ∧ r ≤ left ∧ (0 ≤ r → smE x) ∧ Below w.heap.size w w'

def SzEs (xs : List Ent) (left : Int) (w : World) (e : Ending) (w' : World) : Prop := ∃ r : Int, e = .returned (.int .i64 r) ∧ r ≤ left ∧ (0 ≤ r → xs.length ≤ 1048576 ∧ ∀ x ∈ xs, smE x) ∧ Below w.heap.size w w'
end Go.Proofs.Ytemcdmjnokpldaa
/- Entries, part 4: SameEntries on both sides. -/
namespace Go.Proofs.Ytemcdmjnokpldaa
open Go.RowKit Go.Joins

/-- where two entries part first -/
theorem ent_cases (x y : Ent) : x = y ∨
    (x ≠ y ∧ ((x.num != y.num) = true ∨ (x.num = y.num ∧ (x.name.toList != y.name.toList) = true ∧ (x.name.toList == y.name.toList) = false) ∨ (x.num = y.num ∧ x.name = y.name ∧ (x.maker.toList != y.maker.toList) = true ∧ (x.maker.toList == y.maker.toList) = false) ∨
      (x.num = y.num ∧ x.name = y.name ∧ x.maker = y.maker ∧ (x.year != y.year) = true) ∨ (x.num = y.num ∧ x.name = y.name ∧ x.maker = y.maker ∧ x.year = y.year ∧ decide (x.words = y.words) = false))) := by
  have hbn : ∀ a b : ByteArray, a ≠ b → (a.toList != b.toList) = true ∧ (a.toList == b.toList) = false := fun a b h =>
    ⟨bne_iff_ne.2 fun e => h (ba_inj e), beq_eq_false_iff_ne.2 fun e => h (ba_inj e)⟩
  by_cases h : x = y
  · exact .inl h
  · refine .inr ⟨h, ?_⟩
    by_cases h1 : x.num = y.num
    · by_cases h2 : x.name = y.name
      · by_cases h3 : x.maker = y.maker
        · by_cases h4 : x.year = y.year
          · refine .inr (.inr (.inr (.inr ⟨h1, h2, h3, h4, ?_⟩)))
            rw [decide_eq_false_iff_not]
            intro h5
            exact h (by obtain ⟨a, b, c, d, e⟩ := x; obtain ⟨a', b', c', d', e'⟩ := y; simp_all)
          · exact .inr (.inr (.inr (.inl ⟨h1, h2, h3, bne_iff_ne.2 h4⟩)))
        · exact .inr (.inr (.inl ⟨h1, h2, hbn _ _ h3⟩))
      · exact .inr (.inl ⟨h1, hbn _ _ h2⟩)
    · exact .inl (bne_iff_ne.2 h1)

theorem ents_bad {xs ys : List Ent} (k : Nat) (hx : k < xs.length) (hy : k < ys.length) (h : xs[k] ≠ ys[k]) : decide (xs = ys) = false := by
  rw [decide_eq_false_iff_not]
  intro e
  subst e
  exact h rfl
theorem ents_step {xs ys : List Ent} (k : Nat) (hx : k < xs.length) (hy : k < ys.length) (h0 : xs.take k = ys.take k) (h : xs[k] = ys[k]) : xs.take (k + 1) = ys.take (k + 1) := by
  rw [List.take_succ_eq_append_getElem hx, List.take_succ_eq_append_getElem hy, h0, h]

end Go.Proofs.Ytemcdmjnokpldaa
/- Loans, part 1: how lists of loans lie; one loan's size and copy. -/
namespace Go.Proofs.Ytemcdmjnokpldaa
open Go.RowKit Go.Joins

structure Ln where
  what : ByteArray
  who : ByteArray
  from_ : Int
  till : Int
deriving DecidableEq
def cellsL (x : Ln) : List Value := [.string x.what, .string x.who, .int .i64 x.from_, .int .i64 x.till]
abbrev aggL (x : Ln) : Value := .agg #[.string x.what, .string x.who, .int .i64 x.from_, .int .i64 x.till]
/-- the reading of a list of loans -/
def RdL (w : World) (B : Nat) (v : Value) (xs : List Ln) : Prop := Rd w B v xs.length 4 (xs.flatMap cellsL)
theorem RdL.below {w w' : World} {B : Nat} {v : Value} {xs : List Ln} (h : RdL w B v xs) (hb : Below B w w') : RdL w' B v xs := Rd.below h hb
theorem RdL.more {w : World} {B B' : Nat} {v : Value} {xs : List Ln} (h : RdL w B v xs) (hB : B ≤ B') : RdL w B' v xs := Rd.more h hB
theorem RdL.next {w w' : World} {v : Value} {xs : List Ln} (h : RdL w w.heap.size v xs) (hb : Below w.heap.size w w') : RdL w' w'.heap.size v xs := (h.below hb).more hb.size
theorem RdL.drewN {w : World} {B : Nat} {v : Value} {xs : List Ln} (h : RdL w B v xs) (n : Nat) : RdL (w.drewN n) B v xs := h
theorem RdL.slice {w : World} {B : Nat} {v : Value} {xs : List Ln} (h : RdL w B v xs) : ∃ A c, v = .slice A xs.length c := by
  obtain ⟨_, A, c, h2, _⟩ := h
  exact ⟨A, c, h2⟩
/-- the four cells of a loan -/
structure LnAt (w : World) (B b o : Nat) (x : Ln) : Prop where
  lt : b < B
  c0 : w.cell? ⟨b, o, none⟩ = some (.string x.what)
  c1 : w.cell? ⟨b, o + 1, none⟩ = some (.string x.who)
  c2 : w.cell? ⟨b, o + 2, none⟩ = some (.int .i64 x.from_)
  c3 : w.cell? ⟨b, o + 3, none⟩ = some (.int .i64 x.till)
theorem LnAt.below {w w' : World} {B b o : Nat} {x : Ln} (h : LnAt w B b o x) (hb : Below B w w') : LnAt w' B b o x :=
  ⟨h.lt, (hb.cell (p := ⟨b, o, none⟩) h.lt).trans h.c0, (hb.cell (p := ⟨b, o + 1, none⟩) h.lt).trans h.c1, (hb.cell (p := ⟨b, o + 2, none⟩) h.lt).trans h.c2, (hb.cell (p := ⟨b, o + 3, none⟩) h.lt).trans h.c3⟩
theorem LnAt.drewN {w : World} {B b o : Nat} {x : Ln} (h : LnAt w B b o x) (n : Nat) : LnAt (w.drewN n) B b o x := ⟨h.1, h.2, h.3, h.4, h.5⟩
theorem RdL.at {w : World} {B n c : Nat} {A : Option Addr} {xs : List Ln} (h : RdL w B (.slice A n c) xs) (k : Nat) (hk : k < xs.length) :
    ∃ b off, A = some ⟨b, off, none⟩ ∧ LnAt w B b (off + k * 4) xs[k] := by
  obtain ⟨_, A0, c0, hv, hc⟩ := h
  injection hv with e1 e2 e3
  subst e1
  obtain ⟨b, off, hA, hb, hcc⟩ := hc (by omega)
  have hat : ∀ j u, j < 4 → (cellsL xs[k])[j]? = some u → w.cell? ⟨b, off + k * 4 + j, none⟩ = some u := fun j u hj hu => by
    have := hcc (k * 4 + j) u ((flat_at cellsL 4 (fun _ => rfl) xs k j hk hj).trans hu)
    rwa [← Nat.add_assoc] at this
  exact ⟨b, off, hA, ⟨hb, hat 0 _ (by omega) rfl, hat 1 _ (by omega) rfl, hat 2 _ (by omega) rfl, hat 3 _ (by omega) rfl⟩⟩
def lenL (x : Ln) : Prop := x.what.size ≤ maxLen ∧ x.who.size ≤ maxLen
def smL (x : Ln) : Prop := x.what.size ≤ 1048576 ∧ x.who.size ≤ 1048576
def SzL (x : Ln) (left : Int) (w : World) (e : Ending) (w' : World) : Prop := ∃ r : Int, e = .returned (.int .i64 r) ∧ r ≤ left ∧ (0 ≤ r → smL x) ∧ Below w.heap.size w w'
end Go.Proofs.Ytemcdmjnokpldaa
/- Loans, part 2: sizes of lists, one loan's copy and equality. -/
namespace Go.Proofs.Ytemcdmjnokpldaa
open Go.RowKit Go.Joins

def SzLs (xs : List Ln) (left : Int) (w : World) (e : Ending) (w' : World) : Prop := ∃ r : Int, e = .returned (.int .i64 r) ∧ r ≤ left ∧ (0 ≤ r → xs.length ≤ 1048576 ∧ ∀ x ∈ xs, smL x) ∧ Below w.heap.size w w'
end Go.Proofs.Ytemcdmjnokpldaa
/- Loans, part 3: lists of loans copied and compared. -/
namespace Go.Proofs.Ytemcdmjnokpldaa
open Go.RowKit Go.Joins

theorem set4 (l r : List Value) (n : Nat) (hn : l.length = n) (hr : 4 ≤ r.length) (a b c d : Value) :
    ((((l ++ r).set n a).set (n + 1) b).set (n + 2) c).set (n + 3) d = (l ++ [a, b, c, d]) ++ r.drop 4 := by
  subst hn
  match r, hr with
  | x0 :: x1 :: x2 :: x3 :: r, _ =>
    rw [List.set_append_right _ _ (Nat.le_refl _), List.set_append_right _ _ (by omega), List.set_append_right _ _ (by omega), List.set_append_right _ _ (by omega)]
    simp

end Go.Proofs.Ytemcdmjnokpldaa
/- Loans, part 4: lists of loans compared. -/
namespace Go.Proofs.Ytemcdmjnokpldaa
open Go.RowKit Go.Joins

def EightC (w : World) (b1 o1 b2 o2 : Nat) (a b : ByteArray) (f t : Int) : Prop :=
  w.cell? ⟨b1, o1, none⟩ = some (.string a) ∧ w.cell? ⟨b1, o1 + 1, none⟩ = some (.string b) ∧ w.cell? ⟨b1, o1 + 2, none⟩ = some (.int .i64 f) ∧ w.cell? ⟨b1, o1 + 3, none⟩ = some (.int .i64 t) ∧ w.cell? ⟨b2, o2, none⟩ = some (.string a) ∧ w.cell? ⟨b2, o2 + 1, none⟩ = some (.string b) ∧ w.cell? ⟨b2, o2 + 2, none⟩ = some (.int .i64 f) ∧ w.cell? ⟨b2, o2 + 3, none⟩ = some (.int .i64 t)
theorem eight_cells {W w1 : World} {b1 o1 b2 o2 : Nat} {a b : ByteArray} {f t : Int} (hb : Below W.heap.size W w1) (h : EightC W b1 o1 b2 o2 a b f t) : EightC w1 b1 o1 b2 o2 a b f t :=
  have k {p : Addr} {v : Value} (h : W.cell? p = some v) : w1.cell? p = some v := (hb.cell (World.block_lt_of_cell? W _ h)).trans h
  ⟨k h.1, k h.2.1, k h.2.2.1, k h.2.2.2.1, k h.2.2.2.2.1, k h.2.2.2.2.2.1, k h.2.2.2.2.2.2.1, k h.2.2.2.2.2.2.2⟩

end Go.Proofs.Ytemcdmjnokpldaa
/- Loans, part 5: the reading of an argument. -/
namespace Go.Proofs.Ytemcdmjnokpldaa
open Go.ChangeShapes Go.WideShapes Go.ChangeAt Go.RowKit

end Go.Proofs.Ytemcdmjnokpldaa
/- Names: IsName on both sides. -/
namespace Go.Proofs.Ytemcdmjnokpldaa
open Go.RowKit Go.Joins

def smC (c : Nat) : Bool := decide (97 ≤ c) && decide (c ≤ 122)
def dgC (c : Nat) : Bool := decide (48 ≤ c) && decide (c ≤ 57)
def okC (c : Nat) : Bool := smC c || dgC c || decide (c = 45)
/-- a name -/
def isNm (l : List UInt8) : Bool := match l with
  | [] => false
  | c :: t => decide (t.length < 12) && smC c.toNat && (c :: t).all fun c => okC c.toNat
theorem isNm_nil : isNm [] = false := rfl
theorem isNm_cons (c : UInt8) (t : List UInt8) : isNm (c :: t) = (decide (t.length < 12) && smC c.toNat && (c :: t).all fun c => okC c.toNat) := rfl
theorem isNm_long (l : List UInt8) (h : 12 < l.length) : isNm l = false := by
  cases l with
  | nil => rfl
  | cons c t =>
    have : ¬ t.length < 12 := by simp at h; omega
    simp [isNm, this]
theorem isNm_bad (l : List UInt8) (k : Nat) (hk : k < l.length) (h : okC l[k].toNat = false) : isNm l = false := by
  cases l with
  | nil => rfl
  | cons c t =>
    have : ((c :: t).all fun c => okC c.toNat) = false := by
      rw [List.all_eq_false]
      exact ⟨_, List.getElem_mem hk, by simp [h]⟩
    rw [isNm_cons, this, Bool.and_false]
theorem isNm_first (l : List UInt8) (hk : 0 < l.length) (h : smC l[0].toNat = false) : isNm l = false := by
  cases l with
  | nil => rfl
  | cons c t => simp at h; simp [isNm, h]
theorem isNm_yes (l : List UInt8) (hk : 0 < l.length) (hk2 : l.length ≤ 12) (h : smC l[0].toNat = true) (ha : (l.all fun c => okC c.toNat) = true) : isNm l = true := by
  cases l with
  | nil => simp at hk
  | cons c t =>
    simp only [List.length_cons] at hk2
    have : t.length < 12 := by omega
    simp at h
    rw [isNm_cons, ha, h]
    simp [this]
theorem all_step (l : List UInt8) (k : Nat) (hk : k < l.length) (h0 : ((l.take k).all fun c => okC c.toNat) = true) (h : okC l[k].toNat = true) : ((l.take (k + 1)).all fun c => okC c.toNat) = true := by
  rw [List.take_succ_eq_append_getElem hk, List.all_append, h0]
  simp [h]
theorem chr_cases (x : Nat) : (smC x = true ∧ 97 ≤ x ∧ x ≤ 122) ∨ (smC x = false ∧ dgC x = true ∧ 48 ≤ x ∧ x ≤ 57) ∨ (smC x = false ∧ dgC x = false ∧ x = 45) ∨ (smC x = false ∧ dgC x = false ∧ x ≠ 45 ∧ x < 97) ∨ (smC x = false ∧ dgC x = false ∧ x ≠ 45 ∧ 122 < x) := by
  simp only [smC, dgC, Bool.and_eq_true, Bool.and_eq_false_iff, decide_eq_true_eq, decide_eq_false_iff_not]
  omega

theorem isDigit_any (x : Nat) (w : World) :
    Calls Try.prog 152 #[.int .u8 (x : Int)] w fun e w' => e = .returned (.bool (dgC x)) ∧ w = w' := by
  by_cases h1 : 48 ≤ x
  · by_cases h2 : x ≤ 57
    all_goals
      have e1 := Lib.hid (show dgC x = decide (x ≤ 57) by simp [dgC, h1])
      go_enter Try.func152, Try.ntmps152
      go_wp2
      go_ret
      rw [e1.out]; simp [h2] <;> omega
  · have e1 := Lib.hid (show dgC x = false by simp [dgC, h1])
    have h1' : (x : Int) < 48 := by omega
    go_enter Try.func152, Try.ntmps152
    go_wp2
    go_ret
    rw [e1.out]; exact ⟨rfl, rfl⟩
theorem l01Small_any (x : Nat) (w : World) :
    Calls Try.prog 164 #[.int .u8 (x : Int)] w fun e w' => e = .returned (.bool (smC x)) ∧ w = w' := by
  by_cases h1 : 97 ≤ x
  · by_cases h2 : x ≤ 122
    all_goals
      have e1 := Lib.hid (show smC x = decide (x ≤ 122) by simp [smC, h1])
      go_enter Try.func164, Try.ntmps164
      go_wp2
      go_ret
      rw [e1.out]; simp [h2] <;> omega
  · have e1 := Lib.hid (show smC x = false by simp [smC, h1])
    have h1' : (x : Int) < 97 := by omega
    go_enter Try.func164, Try.ntmps164
    go_wp2
    go_ret
    rw [e1.out]; exact ⟨rfl, rfl⟩
theorem l01Digit_any (x : Nat) (w : World) :
    Calls Try.prog 165 #[.int .u8 (x : Int)] w fun e w' => e = .returned (.bool (dgC x)) ∧ w = w' := by
  by_cases h1 : 48 ≤ x
  · by_cases h2 : x ≤ 57
    all_goals
      have e1 := Lib.hid (show dgC x = decide (x ≤ 57) by simp [dgC, h1])
      go_enter Try.func165, Try.ntmps165
      go_wp2
      go_ret
      rw [e1.out]; simp [h2] <;> omega
  · have e1 := Lib.hid (show dgC x = false by simp [dgC, h1])
    have h1' : (x : Int) < 48 := by omega
    go_enter Try.func165, Try.ntmps165
    go_wp2
    go_ret
    rw [e1.out]; exact ⟨rfl, rfl⟩
end Go.Proofs.Ytemcdmjnokpldaa
/- Names, part 2: the walks of IsName. -/
namespace Go.Proofs.Ytemcdmjnokpldaa
open Go.RowKit Go.Joins

theorem okC_sm {x : Nat} (h : smC x = true) : okC x = true := by simp [okC, h]
theorem okC_dg {x : Nat} (h : dgC x = true) : okC x = true := by simp [okC, h]
theorem okC_da {x : Nat} (h : x = 45) : okC x = true := by simp [okC, h]
theorem okC_no {x : Nat} (h : smC x = false) (h2 : dgC x = false) (h3 : x ≠ 45) : okC x = false := by simp [okC, h, h2, h3]

set_option maxRecDepth 100000 in
set_option maxHeartbeats 1600000 in
theorem IsNameI_any (s : ByteArray) (w : World) (hs : s.size ≤ 1048576) :
    Calls Try.prog 116 #[.string s] w fun e w' => e = .returned (.bool (isNm s.data.toList)) ∧ w = w' := by
  have hsz : s.data.toList.length = s.size := by simp
  have Hsz := Lib.hid hsz; clear hsz
  by_cases h0 : s.size = 0
  · have hfin := Lib.hid (show isNm s.data.toList = false by
      have he : s.data.toList = [] := List.eq_nil_of_length_eq_zero (by rw [Hsz.out, h0])
      rw [he]; rfl)
    have hq : ((s.size : Int) == 0) = true := by simp [h0]
    clear h0
    go_enter Try.func116, Try.ntmps116
    go_wp2_with fail
    go_ret
    rw [hfin.out]; exact ⟨rfl, rfl⟩
  · have hq : ((s.size : Int) == 0) = false := by simpa using h0
    by_cases h12 : 12 < s.size
    · have hfin := Lib.hid (isNm_long s.data.toList (by rw [Hsz.out]; exact h12))
      have hq2 : (12 : Int) < (s.size : Int) := by omega
      clear h0
      go_enter Try.func116, Try.ntmps116
      go_wp2_with fail
      go_ret
      rw [hfin.out]; exact ⟨rfl, rfl⟩
    · have hq2 : (s.size : Int) ≤ 12 := by omega
      have hp : 0 < s.data.toList.length := by rw [Hsz.out]; omega
      have Hp := Lib.hid hp
      go_enter Try.func116, Try.ntmps116
      go_wp2_with fail
      go_loop [15] (fun i => ∃ k : Nat, k ≤ s.size ∧ ((s.data.toList.take k).all fun c => okC c.toNat) = true ∧ (0 < k → smC (s.data.toList[0]'hp).toNat = true) ∧ i = .int .i64 k) (fun i => s.size - (intOf i).toNat)
      case atStart => exact ⟨0, Nat.zero_le _, rfl, by omega, rfl⟩
      case round =>
        obtain ⟨k, hk, hall, hfst, rfl⟩ := hrel
        have Hall := Lib.hid hall; clear hall
        have Hfst := Lib.hid hfst; clear hfst
        by_cases hlt : k < s.size
        · have hkl : k < s.data.toList.length := by rw [Hsz.out]; exact hlt
          have Hbad := Lib.hid (show okC s[k].toNat = false → isNm s.data.toList = false from fun h => isNm_bad s.data.toList k hkl h)
          have Hst := Lib.hid (show okC s[k].toNat = true → ((s.data.toList.take (k + 1)).all fun c => okC c.toNat) = true from fun h => all_step s.data.toList k hkl Hall.out h)
          have Hfk := Lib.hid (show smC s[k].toNat = true → smC (s.data.toList[0]'hp).toNat = true from fun h => by
            by_cases hk0 : k = 0
            · subst hk0; exact h
            · exact Hfst.out (by omega))
          have Hf0 := Lib.hid (show k = 0 → smC s[k].toNat = false → isNm s.data.toList = false from fun h h2 => isNm_first s.data.toList hp (by subst h; exact h2))
          have hx8 := s[k].toNat_lt
          have hx9 : (s[k].toNat : Int) < 256 := by omega
          have HD := Lib.hid (fun wx => isDigit_any s[k].toNat wx)
          clear hx8
          have hlt' : (k : Int) < (s.size : Int) := by omega
          by_cases hk0 : k = 0
          · have hqk : ((k : Int) == 0) = true := by simp [hk0]
            rcases chr_cases s[k].toNat with ⟨c1, c2, c3⟩ | ⟨c1, c2, c3, c4⟩ | ⟨c1, c2, c3⟩ | ⟨c1, c2, c3, c4⟩ | ⟨c1, c2, c3, c4⟩
            · have hst := Lib.hid (Hst.out (okC_sm c1))
              have hf := Lib.hid (Hfk.out c1)
              clear Hbad Hst Hfk Hf0 c1 hk0
              have d1 : (97 : Int) ≤ (s[k].toNat : Int) := by omega
              have d2 : (s[k].toNat : Int) ≤ 122 := by omega
              go_wp2_with fail
              go_round
              case rel => exact ⟨k + 1, by omega, hst.out, fun _ => hf.out, by go_num⟩
              case measure => simp [intOf]; omega
            all_goals
              have hfin := Lib.hid (Hf0.out hk0 c1)
              clear Hbad Hst Hfk Hf0 c1 c2 hk0
              rcases Nat.lt_or_ge s[k].toNat 97 with d0 | d0
              · first
                | (exfalso; omega)
                | (have d1 : (s[k].toNat : Int) < 97 := by omega
                   go_wp2_with fail
                   go_ret
                   rw [hfin.out]; exact ⟨rfl, rfl⟩)
              · first
                | (exfalso; omega)
                | (have d1 : (97 : Int) ≤ (s[k].toNat : Int) := by omega
                   have d2 : decide ((s[k].toNat : Int) ≤ 122) = false := by rw [decide_eq_false_iff_not]; omega
                   go_wp2_with fail
                   go_ret
                   rw [hfin.out]; exact ⟨rfl, rfl⟩)
          · have hqk : ((k : Int) == 0) = false := by simpa using hk0
            have hf := Lib.hid (Hfst.out (by omega))
            rcases chr_cases s[k].toNat with ⟨c1, c2, c3⟩ | ⟨c1, c2, c3, c4⟩ | ⟨c1, c2, c3⟩ | ⟨c1, c2, c3, c4⟩ | ⟨c1, c2, c3, c4⟩
            · have hst := Lib.hid (Hst.out (okC_sm c1))
              clear Hbad Hst Hfk Hf0 c1 hk0
              have d1 : (97 : Int) ≤ (s[k].toNat : Int) := by omega
              have d2 : (s[k].toNat : Int) ≤ 122 := by omega
              go_wp2_with fail
              go_round
              case rel => exact ⟨k + 1, by omega, hst.out, fun _ => hf.out, by go_num⟩
              case measure => simp [intOf]; omega
            · have hst := Lib.hid (Hst.out (okC_dg c2))
              rw [c2] at HD
              clear Hbad Hst Hfk Hf0 c1 c2 hk0
              have d1 : (s[k].toNat : Int) < 97 := by omega
              have d3 : ((s[k].toNat : Int) != 45) = true := by rw [bne_iff_ne]; omega
              go_wp2_with fail
              refine (HD.out _).mono ?_; rintro e w1 ⟨rfl, rfl⟩
              go_wp2_with fail
              go_round
              case rel => exact ⟨k + 1, by omega, hst.out, fun _ => hf.out, by go_num⟩
              case measure => simp [intOf]; omega
            · have hst := Lib.hid (Hst.out (okC_da c3))
              clear Hbad Hst Hfk Hf0 c1 c2 hk0
              have d1 : (s[k].toNat : Int) < 97 := by omega
              have d3 : ((s[k].toNat : Int) != 45) = false := by simp [c3]
              clear c3
              go_wp2_with fail
              go_round
              case rel => exact ⟨k + 1, by omega, hst.out, fun _ => hf.out, by go_num⟩
              case measure => simp [intOf]; omega
            · have hfin := Lib.hid (Hbad.out (okC_no c1 c2 c3))
              rw [c2] at HD
              have d1 : (s[k].toNat : Int) < 97 := by omega
              have d3 : ((s[k].toNat : Int) != 45) = true := by rw [bne_iff_ne]; omega
              clear Hbad Hst Hfk Hf0 c1 c2 c3 hk0
              go_wp2_with fail
              refine (HD.out _).mono ?_; rintro e w1 ⟨rfl, rfl⟩
              go_wp2_with fail
              go_ret
              rw [hfin.out]; exact ⟨rfl, rfl⟩
            · have hfin := Lib.hid (Hbad.out (okC_no c1 c2 c3))
              rw [c2] at HD
              have d1 : (97 : Int) ≤ (s[k].toNat : Int) := by omega
              have d2 : decide ((s[k].toNat : Int) ≤ 122) = false := by rw [decide_eq_false_iff_not]; omega
              have d3 : ((s[k].toNat : Int) != 45) = true := by rw [bne_iff_ne]; omega
              clear Hbad Hst Hfk Hf0 c1 c2 c3 hk0
              go_wp2_with fail
              refine (HD.out _).mono ?_; rintro e w1 ⟨rfl, rfl⟩
              go_wp2_with fail
              go_ret
              rw [hfin.out]; exact ⟨rfl, rfl⟩
        · have hfin := Lib.hid (show isNm s.data.toList = true from isNm_yes _ hp (by rw [Hsz.out]; omega) (Hfst.out (by omega)) (by
            have := Hall.out
            rwa [List.take_of_length_le (by rw [Hsz.out]; omega)] at this))
          have hlt' : (s.size : Int) ≤ (k : Int) := by omega
          go_wp2_with fail
          go_ret
          rw [hfin.out]; exact ⟨rfl, rfl⟩
end Go.Proofs.Ytemcdmjnokpldaa
/- Names, part 3: the reference's IsName. -/
namespace Go.Proofs.Ytemcdmjnokpldaa
open Go.RowKit Go.Joins

theorem toList_ne {s : ByteArray} (h : s.size ≠ 0) : s.toList.isEmpty = false := by
  cases hs : s.toList.isEmpty with
  | false => rfl
  | true =>
    have h1 : s.toList = [] := by simpa using hs
    have h2 := congrArg List.length h1
    rw [ByteArray.toList_eq] at h2
    simp at h2
    exact absurd h2 (by simpa using h)

set_option maxRecDepth 100000 in
set_option maxHeartbeats 1600000 in
theorem IsNameS_any (s : ByteArray) (w : World) (hs : s.size ≤ 1048576) :
    Calls Try.prog 156 #[.string s] w fun e w' => e = .returned (.bool (isNm s.data.toList)) ∧ w = w' := by
  have hsz : s.data.toList.length = s.size := by simp
  have Hsz := Lib.hid hsz; clear hsz
  by_cases h0 : s.size = 0
  · obtain rfl : s = ⟨#[]⟩ := by
      obtain ⟨⟨l⟩⟩ := s
      have : l = [] := List.eq_nil_of_length_eq_zero h0
      rw [this]
    clear h0
    go_enter Try.func156, Try.ntmps156
    go_wp2_with fail
    go_ret
    exact ⟨rfl, rfl⟩
  · have he := toList_ne h0
    have hp : 0 < s.data.toList.length := by rw [Hsz.out]; omega
    have hp0 : 0 < s.size := by omega
    have hp1 : (0 : Int) < (s.size : Int) := by omega
    by_cases h12 : 12 < s.size
    · have hfin := Lib.hid (isNm_long s.data.toList (by rw [Hsz.out]; exact h12))
      have hq2 : (12 : Int) < (s.size : Int) := by omega
      clear h0
      go_enter Try.func156, Try.ntmps156
      go_wp2_with fail
      go_ret
      rw [hfin.out]; exact ⟨rfl, rfl⟩
    · have hq2 : (s.size : Int) ≤ 12 := by omega
      have HS := Lib.hid (fun wx => l01Small_any s[0].toNat wx)
      have hx8 := s[0].toNat_lt
      cases hsm : smC s[0].toNat with
      | false =>
        have hfin := Lib.hid (isNm_first s.data.toList hp hsm)
        rw [hsm] at HS
        clear hsm h0
        go_enter Try.func156, Try.ntmps156
        go_wp2_with fail
        refine (HS.out _).mono ?_; rintro e w1 ⟨rfl, rfl⟩
        go_wp2_with fail
        go_ret
        rw [hfin.out]; exact ⟨rfl, rfl⟩
      | true =>
        have Hyes := Lib.hid (fun h => isNm_yes s.data.toList hp (by rw [Hsz.out]; omega) hsm h)
        rw [hsm] at HS
        clear hsm h0
        go_enter Try.func156, Try.ntmps156
        go_wp2_with fail
        refine (HS.out _).mono ?_; rintro e w1 ⟨rfl, rfl⟩
        go_wp2_with fail
        go_loop [3] (fun i => ∃ k : Nat, k ≤ s.size ∧ ((s.data.toList.take k).all fun c => okC c.toNat) = true ∧ i = .int .i64 k) (fun i => s.size - (intOf i).toNat)
        case atStart => exact ⟨0, Nat.zero_le _, rfl, rfl⟩
        case round =>
          obtain ⟨k, hk, hall, rfl⟩ := hrel
          have Hall := Lib.hid hall; clear hall
          by_cases hlt : k < s.size
          · have hkl : k < s.data.toList.length := by rw [Hsz.out]; exact hlt
            have Hbad := Lib.hid (show okC s[k].toNat = false → isNm s.data.toList = false from fun h => isNm_bad s.data.toList k hkl h)
            have Hst := Lib.hid (show okC s[k].toNat = true → ((s.data.toList.take (k + 1)).all fun c => okC c.toNat) = true from fun h => all_step s.data.toList k hkl Hall.out h)
            have hx8 := s[k].toNat_lt
            have hx9 : (s[k].toNat : Int) < 256 := by omega
            have HC := Lib.hid (fun wx => l01Small_any s[k].toNat wx)
            have HD := Lib.hid (fun wx => l01Digit_any s[k].toNat wx)
            clear hx8
            have hlt' : (k : Int) < (s.size : Int) := by omega
            cases c1 : smC s[k].toNat with
            | true =>
              have hst := Lib.hid (Hst.out (okC_sm c1))
              rw [c1] at HC
              clear Hbad Hst c1
              go_wp2_with fail
              refine (HC.out _).mono ?_; rintro e w1 ⟨rfl, rfl⟩
              go_wp2_with fail
              go_round
              case rel => exact ⟨k + 1, by omega, hst.out, by go_num⟩
              case measure => simp [intOf]; omega
            | false =>
              rw [c1] at HC
              cases c2 : dgC s[k].toNat with
              | true =>
                have hst := Lib.hid (Hst.out (okC_dg c2))
                rw [c2] at HD
                clear Hbad Hst c1 c2
                go_wp2_with fail
                refine (HC.out _).mono ?_; rintro e w1 ⟨rfl, rfl⟩
                go_wp2_with fail
                refine (HD.out _).mono ?_; rintro e w1 ⟨rfl, rfl⟩
                go_wp2_with fail
                go_round
                case rel => exact ⟨k + 1, by omega, hst.out, by go_num⟩
                case measure => simp [intOf]; omega
              | false =>
                rw [c2] at HD
                by_cases c3 : s[k].toNat = 45
                · have hst := Lib.hid (Hst.out (okC_da c3))
                  have d3 : ((s[k].toNat : Int) != 45) = false := by simp [c3]
                  clear Hbad Hst c1 c2 c3
                  go_wp2_with fail
                  refine (HC.out _).mono ?_; rintro e w1 ⟨rfl, rfl⟩
                  go_wp2_with fail
                  refine (HD.out _).mono ?_; rintro e w1 ⟨rfl, rfl⟩
                  go_wp2_with fail
                  go_round
                  case rel => exact ⟨k + 1, by omega, hst.out, by go_num⟩
                  case measure => simp [intOf]; omega
                · have hfin := Lib.hid (Hbad.out (okC_no c1 c2 c3))
                  have d3 : ((s[k].toNat : Int) != 45) = true := by rw [bne_iff_ne]; omega
                  clear Hbad Hst c1 c2 c3
                  go_wp2_with fail
                  refine (HC.out _).mono ?_; rintro e w1 ⟨rfl, rfl⟩
                  go_wp2_with fail
                  refine (HD.out _).mono ?_; rintro e w1 ⟨rfl, rfl⟩
                  go_wp2_with fail
                  go_ret
                  rw [hfin.out]; exact ⟨rfl, rfl⟩
          · have hfin := Lib.hid (Hyes.out (by
              have := Hall.out
              rwa [List.take_of_length_le (by rw [Hsz.out]; omega)] at this))
            have hlt' : (s.size : Int) ≤ (k : Int) := by omega
            go_wp2_with fail
            go_ret
            rw [hfin.out]; exact ⟨rfl, rfl⟩
end Go.Proofs.Ytemcdmjnokpldaa
/- Entries, part 6: a valid entry, both sides. -/
namespace Go.Proofs.Ytemcdmjnokpldaa
open Go.RowKit Go.Joins

/-- all of the first n -/
def chk (n : Nat) (f : Nat → Bool) : Bool := (List.range n).all f
theorem chk_bad {n : Nat} {f : Nat → Bool} (k : Nat) (hk : k < n) (h : f k = false) : chk n f = false := by
  unfold chk
  rw [List.all_eq_false]
  exact ⟨k, List.mem_range.2 hk, by simp [h]⟩
theorem chk_step {f : Nat → Bool} {k : Nat} (h0 : chk k f = true) (h : f k = true) : chk (k + 1) f = true := by
  unfold chk at *
  rw [List.range_succ, List.all_append, h0]
  simp [h]
def lessS (a b : ByteArray) : Bool := Op.bytesLess a.toList b.toList
theorem bl_tot : ∀ a b : List UInt8, Op.bytesLess a b = !(Op.bytesLess b a || b == a)
  | [], [] => rfl
  | [], _ :: _ => by simp [Op.bytesLess]
  | _ :: _, [] => by simp [Op.bytesLess]
  | a :: x, b :: y => by
    have ih := bl_tot x y
    rcases Nat.lt_trichotomy a.toNat b.toNat with h | h | h
    · have h1 : a < b := UInt8.lt_iff_toNat_lt.2 h
      have h2 : ¬ b < a := fun e => by have := UInt8.lt_iff_toNat_lt.1 e; omega
      have h3 : b ≠ a := fun e => by rw [e] at h; omega
      simp [Op.bytesLess, h1, h2, h3]
    · have h1 : a = b := UInt8.toNat_inj.1 h
      subst h1
      have h2 : ¬ a < a := fun e => by have := UInt8.lt_iff_toNat_lt.1 e; omega
      simp only [Op.bytesLess, h2, ih]
      simp
    · have h1 : ¬ a < b := fun e => by have := UInt8.lt_iff_toNat_lt.1 e; omega
      have h2 : b < a := UInt8.lt_iff_toNat_lt.2 h
      have h3 : a ≠ b := fun e => by rw [e] at h; omega
      simp [Op.bytesLess, h1, h2, h3]
/-- what the two sides ask of neighbours -/
theorem less_yes {a b : ByteArray} (h : lessS a b = true) : (Op.bytesLess b.toList a.toList || b.toList == a.toList) = false ∧ Op.bytesLess b.toList a.toList = false ∧ (b.toList == a.toList) = false ∧ Op.bytesLess a.toList b.toList = true := by
  have h1 := bl_tot a.toList b.toList
  unfold lessS at h
  rw [h] at h1
  have h2 : (Op.bytesLess b.toList a.toList || b.toList == a.toList) = false := by simpa using h1.symm
  have h3 := h2
  rw [Bool.or_eq_false_iff] at h3
  exact ⟨h2, h3.1, h3.2, h⟩
theorem less_no {a b : ByteArray} (h : lessS a b = false) : (Op.bytesLess b.toList a.toList || b.toList == a.toList) = true ∧ Op.bytesLess a.toList b.toList = false := by
  have h1 := bl_tot a.toList b.toList
  unfold lessS at h
  rw [h] at h1
  refine ⟨?_, h⟩
  cases hh : (Op.bytesLess b.toList a.toList || b.toList == a.toList) with
  | true => rfl
  | false => rw [hh] at h1; simp at h1

def wordOk (l : List ByteArray) (i : Nat) : Bool := isNm (l.getD i ⟨#[]⟩).data.toList && (decide (i = 0) || lessS (l.getD (i - 1) ⟨#[]⟩) (l.getD i ⟨#[]⟩))
def entOk (x : Ent) : Bool := inB x.num 1 1000000 && isNm x.name.data.toList && isNm x.maker.data.toList && inB x.year 1000 3000 && decide (x.words.length ≤ 8) && chk x.words.length (wordOk x.words)
theorem getD_at (l : List ByteArray) (k : Nat) (hk : k < l.length) : l.getD k ⟨#[]⟩ = l[k] := by simp [List.getD, hk]
theorem wordOk_nm (l : List ByteArray) (k : Nat) (hk : k < l.length) (h : isNm l[k].data.toList = false) : wordOk l k = false := by unfold wordOk; rw [getD_at l k hk, h]; rfl
theorem wordOk_0 (l : List ByteArray) (hk : 0 < l.length) (h : isNm l[0].data.toList = true) : wordOk l 0 = true := by unfold wordOk; rw [getD_at l 0 hk, h]; rfl
theorem wordOk_s (l : List ByteArray) (k : Nat) (hk : k + 1 < l.length) (h : isNm l[k + 1].data.toList = true) : wordOk l (k + 1) = lessS l[k] l[k + 1] := by
  unfold wordOk
  rw [getD_at l (k + 1) hk, h, show k + 1 - 1 = k by omega, getD_at l k (by omega)]
  simp
theorem entOk_1 {x : Ent} (h : inB x.num 1 1000000 = false) : entOk x = false := by unfold entOk; rw [h]; rfl
theorem entOk_2 {x : Ent} (h : isNm x.name.data.toList = false) : entOk x = false := by unfold entOk; rw [h]; simp
theorem entOk_3 {x : Ent} (h : isNm x.maker.data.toList = false) : entOk x = false := by unfold entOk; rw [h]; simp
theorem entOk_4 {x : Ent} (h : inB x.year 1000 3000 = false) : entOk x = false := by unfold entOk; rw [h]; simp
theorem entOk_5 {x : Ent} (h : 8 < x.words.length) : entOk x = false := by unfold entOk; rw [decide_eq_false (by omega)]; simp
theorem entOk_6 {x : Ent} (h1 : inB x.num 1 1000000 = true) (h2 : isNm x.name.data.toList = true) (h3 : isNm x.maker.data.toList = true) (h4 : inB x.year 1000 3000 = true) (h5 : x.words.length ≤ 8) : entOk x = chk x.words.length (wordOk x.words) := by unfold entOk; rw [h1, h2, h3, h4, decide_eq_true h5]; simp

end Go.Proofs.Ytemcdmjnokpldaa
/- Entries, part 7: a valid entry, the reference's side. -/
namespace Go.Proofs.Ytemcdmjnokpldaa
open Go.RowKit Go.Joins

theorem flipC {P : Program} {f : FuncId} {args : Array Value} {w : World} {v : Value} (h : Calls P f args w fun e w' => e = .returned v ∧ w = w') : Calls P f args w fun e w' => e = .returned v ∧ w' = w :=
  h.mono fun _ _ ⟨a, b⟩ => ⟨a, b.symm⟩

end Go.Proofs.Ytemcdmjnokpldaa
/- Entries, part 8 (regions' steps by heldsteps.py): ValidEntries on both sides. -/
namespace Go.Proofs.Ytemcdmjnokpldaa
open Go.RowKit Go.Joins

def noEnt : Ent := ⟨0, ⟨#[]⟩, ⟨#[]⟩, 0, []⟩
def placeOk (xs : List Ent) (i : Nat) : Bool := entOk (xs.getD i noEnt) && (decide (i = 0) || decide ((xs.getD (i - 1) noEnt).num < (xs.getD i noEnt).num))
def entsOk (xs : List Ent) : Bool := chk xs.length (placeOk xs) && decide (xs.length ≤ 50)
theorem getE_at (l : List Ent) (k : Nat) (hk : k < l.length) : l.getD k noEnt = l[k] := by simp [List.getD, hk]
theorem place_no (l : List Ent) (k : Nat) (hk : k < l.length) (h : entOk l[k] = false) : placeOk l k = false := by unfold placeOk; rw [getE_at l k hk, h]; rfl
theorem place_0 (l : List Ent) (hk : 0 < l.length) (h : entOk l[0] = true) : placeOk l 0 = true := by unfold placeOk; rw [getE_at l 0 hk, h]; rfl
theorem place_s (l : List Ent) (k : Nat) (hk : k + 1 < l.length) (h : entOk l[k + 1] = true) : placeOk l (k + 1) = decide (l[k].num < l[k + 1].num) := by
  unfold placeOk
  rw [getE_at l (k + 1) hk, h, show k + 1 - 1 = k by omega, getE_at l k (by omega)]
  simp
theorem ents_no {l : List Ent} (k : Nat) (hk : k < l.length) (h : placeOk l k = false) : entsOk l = false := by unfold entsOk; rw [chk_bad k hk h]; rfl
theorem five_at {w : World} {g : Nat} {a b c d e : Value} {t : TypeId} (h : w.heap[g]? = some (.cells #[a, b, c, d, e] t (0, 0))) :
    w.cell? ⟨g, 0, none⟩ = some a ∧ w.cell? ⟨g, 1, none⟩ = some b ∧ w.cell? ⟨g, 2, none⟩ = some c ∧ w.cell? ⟨g, 3, none⟩ = some d ∧ w.cell? ⟨g, 4, none⟩ = some e := by
  obtain ⟨h0, h1, h2, h3, h4, _⟩ := blk5 h
  exact ⟨h0, h1, h2, h3, h4⟩
theorem six_at {w : World} {g : Nat} {a b c d e v : Value} {q : Addr} {t : TypeId} (h : w.heap[g]? = some (.cells #[a, b, c, d, e] t (0, 0))) (hq : w.cell? q = some v) :
    w.cell? ⟨g, 0, none⟩ = some a ∧ w.cell? ⟨g, 1, none⟩ = some b ∧ w.cell? ⟨g, 2, none⟩ = some c ∧ w.cell? ⟨g, 3, none⟩ = some d ∧ w.cell? ⟨g, 4, none⟩ = some e ∧ w.cell? q = some v := by
  obtain ⟨h0, h1, h2, h3, h4, _⟩ := blk5 h
  exact ⟨h0, h1, h2, h3, h4, hq⟩

end Go.Proofs.Ytemcdmjnokpldaa
/- Entries, part 5: the reading of an argument; the law FnExactSameEntries. -/
namespace Go.Proofs.Ytemcdmjnokpldaa
open Go.ChangeShapes Go.WideShapes Go.ChangeAt Go.RowKit

section
variable {H : Type} {enc : TypeId × Value → H} {P : Program} {W : World}
theorem rd_strs_cells {T E : Nat} {fuel : Nat} {cs : List Value} {x : DataW H × List MemPlace} (hT : P.underlying T = some (.slice E)) (hE : P.underlying E = some .string) (hC : P.cellsOf E = 1)
    (hf : DataW.trod enc P W 0 (fun _ => true) true fuel T cs = some x) :
    ∃ (v : Value) (zs : List ByteArray), cs = [v] ∧ Rd W W.heap.size v zs.length 1 (Proofs.Ytemcdmjnokpldaa.strs zs) ∧ zs.length ≤ maxLen ∧ ∀ z ∈ zs, z.size ≤ maxLen := by
  rcases open_strings hT hE hC hf with ⟨rfl, hx⟩ | ⟨a, len, cap, zs, rfl, _, hl, hm, hz, hx, hcell, hwz⟩
  · exact ⟨_, [], rfl, ⟨rfl, none, 0, rfl, fun h => by simp at h⟩, by simp [maxLen], by simp⟩
  · have hz' : zs.length = cap := by simpa using hz
    have hlen : (zs.take len).length = len := by rw [List.length_take]; omega
    refine ⟨_, zs.take len, rfl, ?_, by rw [hlen]; omega, fun z hzz => hwz z (List.mem_of_mem_take hzz)⟩
    rw [hlen]
    refine ⟨by simp [Proofs.Ytemcdmjnokpldaa.strs]; omega, some a, cap, rfl, fun hn => ?_⟩
    have h0 := hcell 0 (by omega)
    obtain ⟨b, off, spot⟩ := a
    have hspot : spot = none := by simpa [Addr.add] using World.cell?_spot h0
    subst hspot
    have hc : ∀ j, j < zs.length → W.cell? ⟨b, off + j, none⟩ = some (.string (zs.getD j ByteArray.empty)) := fun j hj => by rw [← Go.WideShapes.add_plain]; exact hcell j hj
    refine ⟨b, off, rfl, World.block_lt_of_cell? W _ (hc 0 (by omega)), fun i u hu => ?_⟩
    have hi : i < len := by
      have := (List.getElem?_eq_some_iff.1 hu).1
      simp [Proofs.Ytemcdmjnokpldaa.strs] at this; omega
    rw [hc i (by omega), ← hu]
    simp [Proofs.Ytemcdmjnokpldaa.strs, hi, List.getD, (show i < zs.length by omega)]
end

open Go.Joins
end Go.Proofs.Ytemcdmjnokpldaa
/- Entries, part 9: ValidEntries on the reference's side; the law. -/
namespace Go.Proofs.Ytemcdmjnokpldaa
open Go.RowKit Go.Joins

end Go.Proofs.Ytemcdmjnokpldaa
/- Similar entries, part 1: finding an entry, a word. -/
namespace Go.Proofs.Ytemcdmjnokpldaa
open Go.RowKit Go.Joins

def findN : List Ent → Int → Nat → Int
  | [], _, _ => -1
  | x :: l, m, k => if x.num = m then (k : Int) else findN l m (k + 1)
theorem findN_at (xs : List Ent) (m : Int) (k : Nat) (hk : k < xs.length) : findN (xs.drop k) m k = if xs[k].num = m then (k : Int) else findN (xs.drop (k + 1)) m (k + 1) := by
  rw [List.drop_eq_getElem_cons hk]; rfl
theorem findN_end (xs : List Ent) (m : Int) (k : Nat) (hk : xs.length ≤ k) : findN (xs.drop k) m k = -1 := by rw [List.drop_of_length_le hk]; rfl
theorem findN_bd (m : Int) : ∀ (xs : List Ent) (k : Nat), findN xs m k = -1 ∨ ∃ i, i < xs.length ∧ findN xs m k = ((k + i : Nat) : Int) := by
  intro xs
  induction xs with
  | nil => intro k; exact .inl rfl
  | cons x l ih =>
    intro k
    unfold findN
    split
    · exact .inr ⟨0, by simp, rfl⟩
    · rcases ih (k + 1) with h | ⟨i, h1, h2⟩
      · exact .inl h
      · exact .inr ⟨i + 1, by simp; omega, by rw [h2]; congr 1; omega⟩
def hasW : List ByteArray → ByteArray → Bool
  | [], _ => false
  | x :: l, s => if x = s then true else hasW l s
theorem hasW_at (ws : List ByteArray) (s : ByteArray) (k : Nat) (hk : k < ws.length) : hasW (ws.drop k) s = if ws[k] = s then true else hasW (ws.drop (k + 1)) s := by
  rw [List.drop_eq_getElem_cons hk]; rfl
theorem hasW_end (ws : List ByteArray) (s : ByteArray) (k : Nat) (hk : ws.length ≤ k) : hasW (ws.drop k) s = false := by rw [List.drop_of_length_le hk]; rfl

/-- the code of an asked number, and where it is -/
def askC (xs : List Ent) (m : Int) : Int := if entsOk xs = false then 1 else if findN xs m 0 < 0 then 3 else 0
def askI (xs : List Ent) (m : Int) : Int := if entsOk xs = false then 0 else if findN xs m 0 < 0 then 0 else findN xs m 0
end Go.Proofs.Ytemcdmjnokpldaa
/- Registers, part 1: the exact laws' helpers: szInt64S, szRegister, toInt64S, eqInt64S. -/
namespace Go.Proofs.Ytemcdmjnokpldaa
open Go.RowKit Go.Joins

def ints (l : List Int) : List Value := l.map (Value.int .i64)
theorem infoI : (Try.prog.info? 2).map (fun i => (i.zero, i.size, i.bytes)) = some (some (.int .i64 0), 1, 8) := by kernel_rfl
theorem ints_rd {w : World} {B n c : Nat} {A : Option Addr} {zs : List Int} (h : Rd w B (.slice A n c) zs.length 1 (ints zs)) (k : Nat) (hk : k < zs.length) :
    ∃ b off, A = some ⟨b, off, none⟩ ∧ w.cell? ⟨b, off + k, none⟩ = some (.int .i64 zs[k]) := by
  obtain ⟨_, A', c', hv, hc⟩ := h
  injection hv with e1 e2 e3
  subst e1
  obtain ⟨b, off, hA, _, hcc⟩ := hc (by omega)
  exact ⟨b, off, hA, hcc k _ (by simp [ints, hk])⟩

/-- what is left of the room -/
def leftI (left : Int) (n : Nat) : Int := if left - n < 0 then -1 else left - n
theorem leftI_bd (left : Int) (n : Nat) (h1 : left ≤ 1048576) : leftI left n ≤ 1048576 ∧ (0 ≤ leftI left n → (n : Int) ≤ left) ∧ (leftI left n < 0 → leftI left n = -1) := by
  unfold leftI
  split <;> omega

end Go.Proofs.Ytemcdmjnokpldaa
/- Similar entries, part 2: the words two entries share; the reference's side. -/
namespace Go.Proofs.Ytemcdmjnokpldaa
open Go.RowKit Go.Joins

/-- how many words of the one list the other has -/
def comN : List ByteArray → List ByteArray → Nat
  | [], _ => 0
  | x :: l, b => if hasW b x = true then 1 + comN l b else comN l b
theorem comN_at (ws b : List ByteArray) (k : Nat) (hk : k < ws.length) : comN (ws.drop k) b = if hasW b ws[k] = true then 1 + comN (ws.drop (k + 1)) b else comN (ws.drop (k + 1)) b := by
  rw [List.drop_eq_getElem_cons hk]; rfl
theorem comN_end (ws b : List ByteArray) (k : Nat) (hk : ws.length ≤ k) : comN (ws.drop k) b = 0 := by rw [List.drop_of_length_le hk]; rfl
theorem comN_le : ∀ (ws b : List ByteArray), comN ws b ≤ ws.length := by
  intro ws b
  induction ws with
  | nil => exact Nat.le_refl _
  | cons x l ih => unfold comN; split <;> simp <;> omega

end Go.Proofs.Ytemcdmjnokpldaa
/- Similar entries, part 3: the list; the reference's SimilarEntries. -/
namespace Go.Proofs.Ytemcdmjnokpldaa
open Go.RowKit Go.Joins

def simF : List Ent → Nat → Nat → List ByteArray → Nat → List Int → List Int
  | [], _, _, _, _, out => out
  | x :: l, k, i, b, m, out => if k = i ∨ comN x.words b < m then simF l (k + 1) i b m out else if m < comN x.words b then simF l (k + 1) i b (comN x.words b) [x.num] else simF l (k + 1) i b m (out ++ [x.num])
theorem simF_at (xs : List Ent) (k i : Nat) (b : List ByteArray) (m : Nat) (out : List Int) (hk : k < xs.length) : simF (xs.drop k) k i b m out =
    if k = i ∨ comN xs[k].words b < m then simF (xs.drop (k + 1)) (k + 1) i b m out else if m < comN xs[k].words b then simF (xs.drop (k + 1)) (k + 1) i b (comN xs[k].words b) [xs[k].num] else simF (xs.drop (k + 1)) (k + 1) i b m (out ++ [xs[k].num]) := by
  rw [List.drop_eq_getElem_cons hk]; rfl
theorem simF_end (xs : List Ent) (k i : Nat) (b : List ByteArray) (m : Nat) (out : List Int) (hk : xs.length ≤ k) : simF (xs.drop k) k i b m out = out := by rw [List.drop_of_length_le hk]; rfl
/-- the numbers of the most similar -/
def simL (xs : List Ent) (m : Int) : List Int := if askC xs m = 0 then simF xs 0 (askI xs m).toNat (xs.getD (askI xs m).toNat noEnt).words 1 [] else []
theorem simF_len (i : Nat) (b : List ByteArray) : ∀ (xs : List Ent) (k m : Nat) (out : List Int), (simF xs k i b m out).length ≤ out.length + xs.length := by
  intro xs
  induction xs with
  | nil => intro k m out; exact Nat.le_refl _
  | cons x l ih =>
    intro k m out
    unfold simF
    split
    · have := ih (k + 1) m out; simp; omega
    · split
      · have := ih (k + 1) (comN x.words b) [x.num]; simp at *; omega
      · have := ih (k + 1) m (out ++ [x.num]); simp at *; omega
theorem simL_len (xs : List Ent) (m : Int) : (simL xs m).length ≤ xs.length := by
  unfold simL
  split
  · have := simF_len (askI xs m).toNat (xs.getD (askI xs m).toNat noEnt).words xs 0 1 []; simpa using this
  · simp
theorem sim_cases (xs : List Ent) (m : Int) : (askC xs m ≠ 0 ∧ simL xs m = []) ∨ ∃ (i : Nat) (hi : i < xs.length), askC xs m = 0 ∧ askI xs m = i ∧ entsOk xs = true ∧ findN xs m 0 = i ∧ simL xs m = simF xs 0 i xs[i].words 1 [] := by
  by_cases h : askC xs m = 0
  · right
    have h' := h
    unfold askC at h
    split at h
    · cases h
    · split at h
      · cases h
      · rename_i ho hf
        have ho : entsOk xs = true := by simpa using ho
        rcases findN_bd m xs 0 with e | ⟨i, hi, e⟩
        · omega
        · rw [Nat.zero_add] at e
          have hI : askI xs m = (i : Int) := by
            unfold askI
            rw [if_neg (by simp [ho]), if_neg (by omega), e]
          refine ⟨i, hi, h', hI, ho, e, ?_⟩
          unfold simL
          rw [if_pos h', hI, Int.toNat_natCast, getE_at xs i hi]
  · exact .inl ⟨h, by unfold simL; rw [if_neg h]⟩

/-- a new list of numbers and a code -/
def RetN (code : Int) (zs : List Int) (w : World) (e : Ending) (w' : World) : Prop :=
  ∃ v, e = .returned (.tuple #[v, .int .i64 code]) ∧ w'.ownsRow w.heap.size 2 1 v zs.length (ints zs) ∧ Below w.heap.size w w'
theorem RetN_no {code c2 : Int} {zs : List Int} {w w' : World} (h : zs = []) (hc : c2 = code) (hb : Below w.heap.size w w') : RetN code zs w (.returned (.tuple #[.slice none 0 0, .int .i64 c2])) w' := by
  subst h hc
  exact ⟨_, rfl, World.ownsRow_nil _ _ _ _, hb⟩
theorem RetN_yes {code c2 : Int} {zs l : List Int} {v : Value} {w w' : World} (h : zs = l) (hc : c2 = code) (ho : w'.ownsRow w.heap.size 2 1 v l.length (ints l)) (hb : Below w.heap.size w w') : RetN code zs w (.returned (.tuple #[v, .int .i64 c2])) w' := by
  subst h hc
  exact ⟨_, rfl, ho, hb⟩
theorem ones_one (a : Int) : ∀ u ∈ (#[Value.int .i64 a] : Array Value).toList, u.oneCell' = true := by
  intro u hu
  simp at hu
  subst hu; rfl
theorem ints_one (l : List Int) (a : Int) : ints l ++ (#[Value.int .i64 a] : Array Value).toList = ints (l ++ [a]) := by simp [ints]

end Go.Proofs.Ytemcdmjnokpldaa
/- Similar entries, part 4: the program's SimilarEntries. -/
namespace Go.Proofs.Ytemcdmjnokpldaa
open Go.RowKit Go.Joins

end Go.Proofs.Ytemcdmjnokpldaa
/- Similar entries, part 5: the marks' helpers. -/
namespace Go.Proofs.Ytemcdmjnokpldaa
open Go.RowKit Go.Joins

/-- the digits in front of what is there already -/
def mkD : Nat → Nat → List UInt8 → List UInt8
  | 0, _, out => out
  | f + 1, k, out => if k = 0 then out else mkD f (k / 10) (UInt8.ofNat (48 + k % 10) :: out)
theorem mkD_zero (f : Nat) (out : List UInt8) : mkD f 0 out = out := by cases f <;> simp [mkD]
theorem mkD_step (f m : Nat) (out : List UInt8) (h : 0 < m) (hf : m ≤ f) : ∃ f', mkD f m out = mkD f' (m / 10) (UInt8.ofNat (48 + m % 10) :: out) ∧ m / 10 ≤ f' := by
  cases f with
  | zero => omega
  | succ f => exact ⟨f, by simp [mkD, show m ≠ 0 by omega], by omega⟩
/-- the text of a mark -/
def markT (k : Int) : ByteArray := if k ≤ 0 then ⟨#[109, 48]⟩ else ⟨(109 :: mkD k.toNat k.toNat []).toArray⟩
theorem digB (m : Nat) : IntKind.u8.wrap (48 + (m : Int) % 10) = ((UInt8.ofNat (48 + m % 10)).toNat : Int) := by
  rw [IntKind.wrap_u8]
  simp only [UInt8.toNat_ofNat']
  omega

/-- the marks from k on -/
def marks (k : Int) (n : Nat) : List ByteArray := (List.range n).map fun (i : Nat) => markT (k + (i : Int))
theorem marks_at (k : Int) (n i : Nat) (h : i < n) : (strs (marks k n))[i]? = some (.string (markT (k + (i : Int)))) := by simp [strs, marks, h]
theorem marks_len (k : Int) (n : Nat) : (marks k n).length = n := by simp [marks]

def marksI (k : Int) (n : Nat) : List Int := (List.range n).map fun (i : Nat) => k + (i : Int)
theorem marksI_len (k : Int) (n : Nat) : (marksI k n).length = n := by simp [marksI]
theorem marksI_at (k : Int) (n i : Nat) (h : i < n) : (marksI k n)[i]'(by rw [marksI_len]; exact h) = k + (i : Int) := by simp [marksI]
theorem marksI_succ (k : Int) (n : Nat) : marksI k (n + 1) = marksI k n ++ [k + (n : Int)] := by
  unfold marksI
  rw [List.range_succ, List.map_append]; rfl

end Go.Proofs.Ytemcdmjnokpldaa
/- Loans, part 6: markLoanS. -/
namespace Go.Proofs.Ytemcdmjnokpldaa
open Go.RowKit Go.Joins

def marksL (k : Int) (n : Nat) : List Ln := (List.range n).map fun (i : Nat) => ⟨markT (k + 4 * (i : Int)), markT (k + 4 * (i : Int) + 1), k + 4 * (i : Int) + 1 + 1, k + 4 * (i : Int) + 1 + 1 + 1⟩
theorem marksL_len (k : Int) (n : Nat) : (marksL k n).length = n := by simp [marksL]
theorem marksL_succ (k : Int) (n : Nat) : (marksL k (n + 1)).flatMap cellsL = (marksL k n).flatMap cellsL ++ [.string (markT (k + 4 * (n : Int))), .string (markT (k + 4 * (n : Int) + 1)), .int .i64 (k + 4 * (n : Int) + 1 + 1), .int .i64 (k + 4 * (n : Int) + 1 + 1 + 1)] := by
  unfold marksL
  rw [List.range_succ, List.map_append, List.flatMap_append]; rfl

end Go.Proofs.Ytemcdmjnokpldaa
/- Loans, part 7: heldLoanS. -/
namespace Go.Proofs.Ytemcdmjnokpldaa
open Go.RowKit Go.Joins

theorem marksL_at (k : Int) (n i : Nat) (h : i < n) : (marksL k n)[i]'(by rw [marksL_len]; exact h) = ⟨markT (k + 4 * (i : Int)), markT (k + 4 * (i : Int) + 1), k + 4 * (i : Int) + 1 + 1, k + 4 * (i : Int) + 1 + 1 + 1⟩ := by simp [marksL]

theorem four_kept {W w1 : World} {a b c d : Addr} {x y z t : Value} (hb : Below W.heap.size W w1) (h : W.cell? a = some x ∧ W.cell? b = some y ∧ W.cell? c = some z ∧ W.cell? d = some t) :
    w1.cell? a = some x ∧ w1.cell? b = some y ∧ w1.cell? c = some z ∧ w1.cell? d = some t :=
  have k {p : Addr} {v : Value} (h : W.cell? p = some v) : w1.cell? p = some v := (hb.cell (World.block_lt_of_cell? W _ h)).trans h
  ⟨k h.1, k h.2.1, k h.2.2.1, k h.2.2.2⟩

end Go.Proofs.Ytemcdmjnokpldaa
/- Loans, part 8: one loan's validity, clashes, the order: both sides. -/
namespace Go.Proofs.Ytemcdmjnokpldaa
open Go.RowKit Go.Joins

def loanOk (x : Ln) : Bool := isNm x.what.data.toList && isNm x.who.data.toList && inB x.from_ 0 100000 && inB x.till 0 100000 && decide (x.from_ ≤ x.till)
theorem loan_cases (x : Ln) : (isNm x.what.data.toList = false ∧ loanOk x = false) ∨ (isNm x.what.data.toList = true ∧ isNm x.who.data.toList = false ∧ loanOk x = false) ∨
    (isNm x.what.data.toList = true ∧ isNm x.who.data.toList = true ∧ inB x.from_ 0 100000 = false ∧ loanOk x = false) ∨
    (isNm x.what.data.toList = true ∧ isNm x.who.data.toList = true ∧ inB x.from_ 0 100000 = true ∧ inB x.till 0 100000 = false ∧ loanOk x = false) ∨
    (isNm x.what.data.toList = true ∧ isNm x.who.data.toList = true ∧ inB x.from_ 0 100000 = true ∧ inB x.till 0 100000 = true ∧ loanOk x = decide (x.from_ ≤ x.till)) := by
  unfold loanOk
  cases h1 : isNm x.what.data.toList <;> cases h2 : isNm x.who.data.toList <;> cases h3 : inB x.from_ 0 100000 <;> cases h4 : inB x.till 0 100000 <;> simp

end Go.Proofs.Ytemcdmjnokpldaa
/- Loans, part 9: clashes and the order, both sides. -/
namespace Go.Proofs.Ytemcdmjnokpldaa
open Go.RowKit Go.Joins

def clash (x y : Ln) : Bool := decide (x.what = y.what) && decide (x.from_ ≤ y.till) && decide (y.from_ ≤ x.till)
def before (x y : Ln) : Bool := decide (x.from_ < y.from_) || (decide (x.from_ = y.from_) && lessS x.what y.what)
theorem clash_cases (x y : Ln) : ((x.what.toList == y.what.toList) = false ∧ clash x y = false) ∨ ((x.what.toList == y.what.toList) = true ∧ decide (x.from_ ≤ y.till) = false ∧ clash x y = false) ∨
    ((x.what.toList == y.what.toList) = true ∧ decide (x.from_ ≤ y.till) = true ∧ clash x y = decide (y.from_ ≤ x.till)) := by
  unfold clash
  by_cases h : x.what = y.what
  · rw [h]
    by_cases h1 : x.from_ ≤ y.till <;> simp [h1]
  · exact .inl ⟨beq_eq_false_iff_ne.2 fun e => h (ba_inj e), by simp [h]⟩
theorem before_cases (x y : Ln) : (decide (x.from_ < y.from_) = true ∧ before x y = true) ∨ (decide (x.from_ < y.from_) = false ∧ (x.from_ == y.from_) = false ∧ before x y = false) ∨
    (decide (x.from_ < y.from_) = false ∧ (x.from_ == y.from_) = true ∧ before x y = Op.bytesLess x.what.toList y.what.toList) := by
  unfold before
  change _ ∨ _ ∨ (_ ∧ _ ∧ _ = lessS x.what y.what)
  by_cases h : x.from_ < y.from_
  · simp [h]
  · by_cases h1 : x.from_ = y.from_
    · simp [h1]
    · simp [h, h1]

end Go.Proofs.Ytemcdmjnokpldaa
/- Loans, part 10: valid lists of loans, in plain words; the reference's side. -/
namespace Go.Proofs.Ytemcdmjnokpldaa
open Go.RowKit Go.Joins

def noLn : Ln := ⟨⟨#[]⟩, ⟨#[]⟩, 0, 0⟩
def atL (xs : List Ln) (k : Nat) : Ln := xs.getD k noLn
theorem atL_at (xs : List Ln) (k : Nat) (hk : k < xs.length) : atL xs k = xs[k] := by simp [atL, List.getD, hk]
def freeS (xs : List Ln) (i k : Nat) : Bool := !clash (atL xs k) (atL xs i)
def freeI (xs : List Ln) (i k : Nat) : Bool := !clash (atL xs i) (atL xs k)
def placeS (xs : List Ln) (i : Nat) : Bool := loanOk (atL xs i) && (decide (i = 0) || before (atL xs (i - 1)) (atL xs i)) && chk i (freeS xs i)
def placeI (xs : List Ln) (i : Nat) : Bool := loanOk (atL xs i) && (decide (i = 0) || !before (atL xs i) (atL xs (i - 1))) && chk i (freeI xs i)
def loansOk (xs : List Ln) : Bool := chk xs.length (placeS xs) && decide (xs.length ≤ 60)
def loansOkI (xs : List Ln) : Bool := chk xs.length (placeI xs) && decide (xs.length ≤ 60)
theorem RdL.atD {w : World} {B n c : Nat} {A : Option Addr} {xs : List Ln} (h : RdL w B (.slice A n c) xs) (k : Nat) (hk : k < xs.length) :
    ∃ b off, A = some ⟨b, off, none⟩ ∧ LnAt w B b (off + k * 4) (atL xs k) := by rw [atL_at xs k hk]; exact h.at k hk
theorem chk_succ (f : Nat → Bool) (n : Nat) : chk (n + 1) f = (chk n f && f n) := by
  unfold chk; rw [List.range_succ, List.all_append]; simp
theorem chk_get {f : Nat → Bool} {n k : Nat} (h : chk n f = true) (hk : k < n) : f k = true := by
  unfold chk at h
  exact List.all_eq_true.1 h k (List.mem_range.2 hk)
theorem clash_comm (x y : Ln) : clash x y = clash y x := by
  unfold clash
  rw [Bool.eq_iff_iff]
  simp only [Bool.and_eq_true, decide_eq_true_eq]
  constructor
  · rintro ⟨⟨h1, h2⟩, h3⟩; exact ⟨⟨h1.symm, h3⟩, h2⟩
  · rintro ⟨⟨h1, h2⟩, h3⟩; exact ⟨⟨h1.symm, h3⟩, h2⟩
theorem free_eq (xs : List Ln) (i : Nat) : freeI xs i = freeS xs i := by
  funext k; unfold freeI freeS; rw [clash_comm]
theorem loanOk_le {x : Ln} (h : loanOk x = true) : x.from_ ≤ x.till := by
  unfold loanOk at h
  simp only [Bool.and_eq_true, decide_eq_true_eq] at h
  exact h.2
theorem less_tri {a b : ByteArray} (h : a ≠ b) : lessS a b = !lessS b a := by
  have h1 := bl_tot a.toList b.toList
  have h2 : (b.toList == a.toList) = false := beq_eq_false_iff_ne.2 fun e => h (ba_inj e).symm
  rw [h2, Bool.or_false] at h1
  exact h1
theorem before_flip {x y : Ln} (hx : loanOk x = true) (hy : loanOk y = true) (hc : clash x y = false) : before x y = !before y x := by
  have h1 := loanOk_le hx
  have h2 := loanOk_le hy
  unfold before
  rcases Int.lt_trichotomy x.from_ y.from_ with h | h | h
  · have h3 : ¬ y.from_ < x.from_ := by omega
    have h4 : ¬ y.from_ = x.from_ := by omega
    simp [h, h3, h4]
  · have hw : x.what ≠ y.what := fun e => by
      unfold clash at hc
      rw [e] at hc
      simp at hc
      omega
    have := less_tri hw
    simp [h, this]
  · have h3 : ¬ x.from_ < y.from_ := by omega
    have h4 : ¬ x.from_ = y.from_ := by omega
    simp [h, h3, h4]
theorem place_eq (xs : List Ln) : ∀ n, chk n (placeI xs) = chk n (placeS xs)
  | 0 => rfl
  | n + 1 => by
    rw [chk_succ, chk_succ, place_eq xs n]
    cases hn : chk n (placeS xs) with
    | false => rfl
    | true =>
      simp only [Bool.true_and]
      unfold placeI placeS
      rw [free_eq]
      cases h1 : loanOk (atL xs n) with
      | false => rfl
      | true =>
        cases h2 : chk n (freeS xs n) with
        | false => simp
        | true =>
          rcases Nat.eq_zero_or_pos n with h0 | h0
          · subst h0; rfl
          · have h3 := chk_get hn (show n - 1 < n by omega)
            unfold placeS at h3
            simp only [Bool.and_eq_true] at h3
            have h4 : freeS xs n (n - 1) = true := chk_get h2 (by omega)
            unfold freeS at h4
            rw [before_flip h3.1.1 h1 (by simpa using h4)]
theorem loansOk_eq (xs : List Ln) : loansOkI xs = loansOk xs := by unfold loansOkI loansOk; rw [place_eq]
theorem loans_no {xs : List Ln} (k : Nat) (hk : k < xs.length) (h : placeS xs k = false) : loansOk xs = false := by unfold loansOk; rw [chk_bad k hk h]; rfl
theorem place_1 {xs : List Ln} {k : Nat} (hk : k < xs.length) (h : loanOk xs[k] = false) : placeS xs k = false := by unfold placeS; rw [atL_at xs k hk, h]; rfl
theorem place_2 {xs : List Ln} {k m : Nat} (hk : k < xs.length) (hm : m + 1 = k) (h : before (atL xs m) xs[k] = false) : placeS xs k = false := by
  unfold placeS; rw [atL_at xs k hk, show k - 1 = m by omega, h, decide_eq_false (by omega)]; simp
theorem place_3 {xs : List Ln} {k j : Nat} (hk : k < xs.length) (hj : j < k) (h : clash (atL xs j) xs[k] = true) : placeS xs k = false := by
  have : freeS xs k j = false := by unfold freeS; rw [atL_at xs k hk, h]; rfl
  unfold placeS; rw [chk_bad j hj this]; simp
theorem place_4 {xs : List Ln} {k : Nat} (hk : k < xs.length) (h1 : loanOk xs[k] = true) (h2 : k = 0 ∨ ∃ m, m + 1 = k ∧ before (atL xs m) xs[k] = true) (h : chk k (freeS xs k) = true) : placeS xs k = true := by
  unfold placeS
  rw [atL_at xs k hk, h1, h]
  rcases h2 with rfl | ⟨m, hm, h2⟩
  · rfl
  · rw [show k - 1 = m by omega, h2]; simp
theorem free_step {xs : List Ln} {k j : Nat} (hk : k < xs.length) (h : clash (atL xs j) xs[k] = false) : freeS xs k j = true := by
  unfold freeS; rw [atL_at xs k hk, h]; rfl

/-- what a round meets at place k -/
theorem round_cases (xs : List Ln) (k : Nat) (hk : k < xs.length) : (loanOk xs[k] = false ∧ loansOk xs = false) ∨ (loanOk xs[k] = true ∧ k = 0) ∨
    ∃ m, m + 1 = k ∧ loanOk xs[k] = true ∧ ((before (atL xs m) xs[k] = false ∧ loansOk xs = false) ∨ before (atL xs m) xs[k] = true) := by
  cases h : loanOk xs[k] with
  | false => exact .inl ⟨rfl, loans_no k hk (place_1 hk h)⟩
  | true =>
    rcases Nat.eq_zero_or_pos k with h0 | h0
    · exact .inr (.inl ⟨rfl, h0⟩)
    · refine .inr (.inr ⟨k - 1, by omega, rfl, ?_⟩)
      cases hb : before (atL xs (k - 1)) xs[k] with
      | false => exact .inl ⟨rfl, loans_no k hk (place_2 hk (by omega) hb)⟩
      | true => exact .inr rfl

end Go.Proofs.Ytemcdmjnokpldaa
