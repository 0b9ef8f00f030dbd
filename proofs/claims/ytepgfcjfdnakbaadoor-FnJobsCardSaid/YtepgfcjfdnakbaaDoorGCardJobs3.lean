/- Merged texts: Bo1, U4, U5, One, Dr1, U6, Pc6, Pc7, Pc8, Pc9, Sn1, Jb2, Jb3, Jb4, Jb5, Jb6, Pc10, Pc11, Pc12. -/
import Derived.Test.YtepgfcjfdnakbaaDoorGCardJobs1
import Derived.Test.YtepgfcjfdnakbaaDoorGCardJobs2
/- Bounds of errors, part 1: binomial coefficients and sums in plain words. -/
namespace Go.Proofs.YtepgfcjfdnakbaaDoor

def ch : Nat → Nat → Nat
  | _, 0 => 1
  | 0, _ + 1 => 0
  | n + 1, k + 1 => ch n k + ch n (k + 1)
theorem ch_0 (n : Nat) : ch n 0 = 1 := by cases n <;> rfl
theorem ch_gt : ∀ n k, n < k → ch n k = 0
  | _, 0, h => by omega
  | 0, _ + 1, _ => rfl
  | n + 1, k + 1, h => by show ch n k + ch n (k + 1) = 0; rw [ch_gt n k (by omega), ch_gt n (k + 1) (by omega)]
theorem ch_both : ∀ n k, ch n (k + 1) * (k + 1) = ch n k * (n - k) ∧ ch (n + 1) (k + 1) * (k + 1) = ch n k * (n + 1)
  | 0, k => by
    refine ⟨by show 0 * (k + 1) = _; rw [Nat.zero_sub, Nat.mul_zero, Nat.zero_mul], ?_⟩
    show (ch 0 k + ch 0 (k + 1)) * (k + 1) = _
    cases k with
    | zero => rfl
    | succ k => show (0 + 0) * _ = 0 * _; simp
  | n + 1, k => by
    have h1 := ch_both n k
    have h2 : ch (n + 1) (k + 1) * (k + 1) = ch (n + 1) k * (n + 1 - k) := by
      cases k with
      | zero => rw [h1.2, ch_0, ch_0]; simp
      | succ j =>
        have h3 := (ch_both n j).1
        rw [h1.2]
        show ch n (j + 1) * (n + 1) = (ch n j + ch n (j + 1)) * (n + 1 - (j + 1))
        by_cases hj : j ≤ n
        · rw [Nat.add_mul, show n + 1 - (j + 1) = n - j by omega, ← h3, ← Nat.mul_add]
          congr 1; omega
        · rw [ch_gt n j (by omega), ch_gt n (j + 1) (by omega)]; simp
    refine ⟨h2, ?_⟩
    show (ch (n + 1) k + ch (n + 1) (k + 1)) * (k + 1) = _
    rw [Nat.add_mul, h2, ← Nat.mul_add]
    by_cases hk : k ≤ n + 1
    · congr 1; omega
    · rw [ch_gt (n + 1) k (by omega)]; simp
theorem ch_next (n k : Nat) : ch n k * (n - k) / (k + 1) = ch n (k + 1) := by
  rw [← (ch_both n k).1]; exact Nat.mul_div_cancel _ (by omega)
theorem ch_diag (n k : Nat) : ch n k * (n + 1) / (k + 1) = ch (n + 1) (k + 1) := by
  rw [← (ch_both n k).2]; exact Nat.mul_div_cancel _ (by omega)
theorem ch_up (n k : Nat) : ch n k ≤ ch (n + 1) k := by
  cases k with
  | zero => rw [ch_0, ch_0]; exact Nat.le_refl _
  | succ k => show _ ≤ ch n k + ch n (k + 1); omega
theorem ch_dg (n k : Nat) : ch n k ≤ ch (n + 1) (k + 1) := by show _ ≤ ch n k + ch n (k + 1); omega
theorem ch_pow : ∀ n k, ch n k ≤ 2 ^ n
  | n, 0 => by rw [ch_0]; exact Nat.one_le_two_pow
  | 0, _ + 1 => by simp [ch]
  | n + 1, k + 1 => by
    have h1 := ch_pow n k
    have h2 := ch_pow n (k + 1)
    show ch n k + ch n (k + 1) ≤ _
    rw [Nat.pow_succ]; omega
theorem ch_big {n k : Nat} (h : 1000000000000 < ch n k) : 20 ≤ n := by
  refine Nat.le_of_not_lt fun hn => ?_
  have h1 := ch_pow n k
  have h2 : 2 ^ n ≤ 2 ^ 20 := Nat.pow_le_pow_right (by omega) (by omega)
  have : (2 : Nat) ^ 20 = 1048576 := by decide
  omega
/-- a great coefficient stays great -/
theorem ch_stay {n k : Nat} (h : 1000000000000 < ch n k) (hk : k ≤ 8) : 1000000000000 < ch n (k + 1) := by
  have h1 := ch_big h
  have h2 := (ch_both n k).1
  refine Nat.lt_of_lt_of_le h ?_
  have h3 : ch n k * (k + 1) ≤ ch n (k + 1) * (k + 1) := by rw [h2]; exact Nat.mul_le_mul_left _ (by omega)
  exact Nat.le_of_mul_le_mul_right h3 (by omega)
/-- the greatest value and one more -/
def top : Nat := 1000000000001
def cp (x : Nat) : Nat := min x top
theorem cp_le (x : Nat) : cp x ≤ top := Nat.min_le_right _ _
theorem cp_step (n k : Nat) (hk : k ≤ 8) : cp (ch n (k + 1)) = if cp (ch n k) ≤ 1000000000000 then min (cp (ch n k) * (n - k) / (k + 1)) top else cp (ch n k) := by
  unfold cp
  split
  · rename_i h
    have e : min (ch n k) top = ch n k := by unfold top at h ⊢; omega
    rw [e, ch_next]
  · rename_i h
    have h1 : 1000000000000 < ch n k := by unfold top at h; omega
    have h2 := ch_stay h1 hk
    unfold top; omega
/-- the errors of the first k differences after n steps -/
def sm (s : Nat → Nat) (n : Nat) : Nat → Nat
  | 0 => 0
  | k + 1 => sm s n k + s k * ch n k
theorem sm_mono (s : Nat → Nat) (n : Nat) : ∀ k, sm s n k ≤ sm s (n + 1) k
  | 0 => Nat.le_refl _
  | k + 1 => Nat.add_le_add (sm_mono s n k) (Nat.mul_le_mul_left _ (ch_up n k))
theorem sm_le (s : Nat → Nat) (n k : Nat) : ∀ j, sm s n k ≤ sm s n (k + j)
  | 0 => Nat.le_refl _
  | j + 1 => Nat.le_trans (sm_le s n k j) (Nat.le_add_right _ _)
def sb (s : Nat → Nat) (m n : Nat) : Nat := cp (sm s n m)
theorem sb_mono (s : Nat → Nat) (m n : Nat) : sb s m n ≤ sb s m (n + 1) := by
  have := sm_mono s n m
  unfold sb cp; omega
theorem sb_mono2 (s : Nat → Nat) (m n : Nat) : ∀ j, sb s m n ≤ sb s m (n + j)
  | 0 => Nat.le_refl _
  | j + 1 => Nat.le_trans (sb_mono2 s m n j) (sb_mono s m (n + j))
/-- a summand that is too great -/
theorem sb_over {s : Nat → Nat} {m n k : Nat} (hk : k < m) (h : 1000000000000 < sm s n k + s k * ch n k) : sb s m n = top := by
  have := sm_le s n (k + 1) (m - (k + 1))
  rw [show k + 1 + (m - (k + 1)) = m by omega] at this
  have e : sm s n (k + 1) = sm s n k + s k * ch n k := rfl
  unfold sb cp top; omega
theorem quo_gt {a c M : Nat} (ha : 0 < a) (h : M / a < c) : M < a * c := by
  rw [Nat.mul_comm]
  exact (Nat.div_lt_iff_lt_mul ha).1 h
theorem quo_le {a c M : Nat} (h : c ≤ M / a) : a * c ≤ M := by
  rw [Nat.mul_comm]
  by_cases ha : 0 < a
  · exact (Nat.le_div_iff_mul_le ha).1 h
  · obtain rfl : a = 0 := by omega
    simp
/-- the product with a capped coefficient -/
theorem cp_over {a x : Nat} (ha : 0 < a) (h : 1000000000000 / a < cp x) : 1000000000000 < a * x := by
  have h1 := quo_gt ha h
  exact Nat.lt_of_lt_of_le h1 (Nat.mul_le_mul_left _ (Nat.min_le_left _ _))
theorem cp_under {a x : Nat} (_ha : 0 < a) (h : cp x ≤ 1000000000000 / a) : cp x = x ∧ a * x ≤ 1000000000000 := by
  have h1 := quo_le h
  have h2 : cp x ≤ 1000000000000 := Nat.le_trans h (Nat.div_le_self _ _)
  have h3 : cp x = x := by unfold cp top at *; omega
  rw [h3] at h1
  exact ⟨h3, h1⟩
/-- the reference's step -/
def rs (s : Nat → Nat) (n : Nat) : Nat → Nat
  | 0 => 0
  | k + 1 => if 0 < s k then min top (rs s n k + s k * min (cp (ch n k)) (1000000000000 / s k + 1)) else rs s n k
theorem rs_eq (s : Nat → Nat) (n : Nat) : ∀ k, rs s n k = cp (sm s n k)
  | 0 => by simp [rs, sm, cp]
  | k + 1 => by
    have ih := rs_eq s n k
    show (if 0 < s k then min top (rs s n k + s k * min (cp (ch n k)) (1000000000000 / s k + 1)) else rs s n k) = cp (sm s n k + s k * ch n k)
    rw [ih]
    by_cases h : 0 < s k
    · rw [if_pos h]
      by_cases h2 : cp (ch n k) ≤ 1000000000000 / s k
      · obtain ⟨h3, h4⟩ := cp_under h h2
        rw [h3]
        rw [h3] at h2
        rw [show min (ch n k) (1000000000000 / s k + 1) = ch n k by omega]
        generalize s k * ch n k = x at *
        unfold cp top; omega
      · have h3 := cp_over h (Nat.lt_of_not_le h2)
        rw [show min (cp (ch n k)) (1000000000000 / s k + 1) = 1000000000000 / s k + 1 by omega]
        have h4 := quo_gt (c := 1000000000000 / s k + 1) h (Nat.lt_succ_self _)
        generalize s k * ch n k = x at *
        generalize s k * (1000000000000 / s k + 1) = y at *
        unfold cp top; omega
    · rw [if_neg h, show s k = 0 by omega]; simp
/-- the greatest number of steps -/
def SafeAt (s : Nat → Nat) (m limit r : Nat) : Prop := r ≤ 100000 ∧ sb s m r ≤ limit ∧ (r = 100000 ∨ limit < sb s m (r + 1))
theorem safe_one {s : Nat → Nat} {m limit r r' : Nat} (h : SafeAt s m limit r) (h' : SafeAt s m limit r') : r = r' := by
  obtain ⟨a, b, c⟩ := h
  obtain ⟨a', b', c'⟩ := h'
  by_cases h1 : r < r'
  · have := sb_mono2 s m (r + 1) (r' - (r + 1))
    rw [show r + 1 + (r' - (r + 1)) = r' by omega] at this
    omega
  · by_cases h2 : r' < r
    · have := sb_mono2 s m (r' + 1) (r - (r' + 1))
      rw [show r' + 1 + (r - (r' + 1)) = r by omega] at this
      omega
    · omega
end Go.Proofs.YtepgfcjfdnakbaaDoor
/- Errors of tables, part 4: binomial coefficients, patterns of errors. -/
namespace Go.Proofs.YtepgfcjfdnakbaaDoor
open Go.RowKit Go.Joins

theorem ch_along (m j : Nat) : ∀ d, ch (m + j) j ≤ ch (m + (j + d)) (j + d)
  | 0 => Nat.le_refl _
  | d + 1 => Nat.le_trans (ch_along m j d) (ch_dg (m + (j + d)) (j + d))
theorem cp_small {x : Nat} (h : x ≤ 1000000000000) : cp x = x := by unfold cp top; omega
theorem cp_great {x : Nat} (h : 1000000000000 < x) : cp x = top := by unfold cp top; omega
theorem bin_ch : ∀ n, n < 9 → ∀ k, k < 9 → binV n k = ch n k ∧ cp (ch n k) = ch n k ∧ ch n k ≤ 70 := by decide +kernel

/-- the code of an order and an error -/
def oc (a b : Int) : Int := if inB a 0 8 && inB b 0 1000000 then 0 else 2
theorem oc_ok {a b : Int} (h : oc a b = 0) : (0 ≤ a ∧ a ≤ 8) ∧ 0 ≤ b ∧ b ≤ 1000000 := by
  unfold oc at h
  split at h
  · rename_i h1
    rw [Bool.and_eq_true] at h1
    exact ⟨inB_iff.1 h1.1, inB_iff.1 h1.2⟩
  · cases h
theorem oc_cases (a b : Int) : oc a b = 0 ∨ oc a b = 2 := by
  unfold oc
  split
  · exact .inl rfl
  · exact .inr rfl
theorem oc_fst {a b : Int} (h : inB a 0 8 = false) : oc a b = 2 := by unfold oc; rw [h]; rfl
theorem oc_snd {a b : Int} (h : inB b 0 1000000 = false) : oc a b = 2 := by unfold oc; rw [h, Bool.and_false]; rfl
theorem oc_both {a b : Int} (h : inB a 0 8 = true) (h2 : inB b 0 1000000 = true) : oc a b = 0 := by unfold oc; rw [h, h2]; rfl

/-- how great the error of a difference can be -/
def dbV (a b : Int) : Int := if oc a b = 0 then b * ((2 ^ a.toNat : Nat) : Int) else 0
theorem shl_small (b : Int) (h0 : 0 ≤ b) (h1 : b ≤ 1000000) : ∀ n : Nat, n < 9 → wrap64 (b * 2 ^ n) = b * ((2 ^ n : Nat) : Int) := by
  intro n hn
  have e : (b * 2 ^ n : Int) = b * ((2 ^ n : Nat) : Int) := by rw [Int.natCast_pow]; rfl
  rw [e]
  have h2 : (2 : Nat) ^ n ≤ 256 := Nat.le_trans (Nat.pow_le_pow_right (by omega) (show n ≤ 8 by omega)) (by decide)
  generalize (2 : Nat) ^ n = x at *
  have h3 := abs_mul (a := b) (b := (x : Int)) (A := 1000000) (B := 256) (by omega) (by omega)
  exact IntWalk.wrap64_in _ ⟨by omega, by omega⟩
theorem ret2_int {a b : Int} {c : Value} (h : a = b) : Ending.returned (.tuple #[.int .i64 a, c]) = .returned (.tuple #[.int .i64 b, c]) := by rw [h]
/-- errors that make the error of a difference greatest -/
def wpf (n : Nat) (s : Int) (k : Nat) : Int := if (n - k) % 2 = 1 then -s else s
theorem wpf_wp (n : Nat) (s : Int) : wpf n s = fun k => s * wp n k := by
  funext k
  unfold wpf wp
  split <;> simp
theorem put_put (f : Nat → Int) (a : Nat) (x y : Int) : put (put f a x) a y = put f a y := by
  funext i
  show (if i = a then y else if i = a then x else f i) = if i = a then y else f i
  split <;> rfl
def upTo (k : Nat) (f : Nat → Int) : Nat → Int := fun i => if i < k then f i else 0
theorem upTo_put (k : Nat) (f : Nat → Int) (x : Int) (h : f k = x) : put (upTo k f) k x = upTo (k + 1) f := by
  funext i
  show (if i = k then x else if i < k then f i else 0) = if i < k + 1 then f i else 0
  by_cases e : i = k
  · subst e; rw [if_pos rfl, if_pos (by omega), h]
  · rw [if_neg e]
    by_cases e2 : i < k
    · rw [if_pos e2, if_pos (by omega)]
    · rw [if_neg e2, if_neg (by omega)]
end Go.Proofs.YtepgfcjfdnakbaaDoor
/- Errors of tables, part 5: patterns of errors. -/
namespace Go.Proofs.YtepgfcjfdnakbaaDoor
open Go.RowKit Go.Joins

/-- how an error spreads -/
def spf (n : Nat) (s : Int) (k : Nat) : Int := if k % 2 = 1 then -(s * ((ch n k : Nat) : Int)) else s * ((ch n k : Nat) : Int)
end Go.Proofs.YtepgfcjfdnakbaaDoor
/- The draw 'one'. -/
namespace Go.Proofs.YtepgfcjfdnakbaaDoor
open Go.RowKit Go.Joins

set_option maxHeartbeats 400000 in
theorem one_any (B g k : Nat) (bs : List UInt8) (n : Int) (w : World) (h : SrcAt w B g k bs) (hk : k < 4611686018427387900) :
    Calls Tryd.prog 67 #[.pointer (some ⟨g, 0, none⟩), .int .i64 n] w (DrawnB w B g (k + 2) bs) := by
  have H := Lib.hid h; clear h
  go_enter Tryd.func67, Tryd.ntmps67
  go_wp2_with fail
  refine (pick_any B g k bs n _ H.out (by omega)).mono ?_; rintro e w1 ⟨x, rfl, _, hs1, hg1⟩
  have Hs1 := Lib.hid hs1; clear hs1
  go_wp2_with fail
  go_ret
  exact ⟨_, rfl, Hs1.out, hg1⟩

end Go.Proofs.YtepgfcjfdnakbaaDoor
/- Draws: one of some numbers is drawn. -/
namespace Go.Proofs.YtepgfcjfdnakbaaDoor
open Go.RowKit Go.Joins

set_option maxHeartbeats 400000 in
theorem among_in (B g k m : Nat) (l : List Int) (bs : List UInt8) (w : World) (h : SrcAt w B g k bs) (hk : k < 4611686018427387800) (hm : l.length = m) (hm2 : 2 ≤ m) (hm3 : m ≤ 200) :
    Calls Tryd.prog 91 #[.pointer (some ⟨g, 0, none⟩), .slice (some ⟨w.heap.size, 0, none⟩) m m] (w.alloc (.cells (l.map (Value.int .i64)).toArray 2)) fun e w' => ∃ x : Int, x ∈ l ∧ e = .returned (.int .i64 x) ∧ SrcAt w' B g (k + 2) bs ∧ w.grownBy w' (some g) := by
  have hlt := h.lt
  have hbk := (Below.refl w.heap.size w).alloc (Nat.le_refl _) (.cells (l.map (Value.int .i64)).toArray 2)
  have hnc : ∀ i (hi : i < l.length), (w.alloc (.cells (l.map (Value.int .i64)).toArray 2)).cell? ⟨w.heap.size, i, none⟩ = some (.int .i64 l[i]) := fun i hi => by
    have := new_cells w (l.map (Value.int .i64)).toArray 2 i (.int .i64 l[i]) (by simp [hi])
    rwa [show (⟨w.heap.size, 0, none⟩ : Addr).add i = ⟨w.heap.size, i, none⟩ by unfold Addr.add; split <;> simp_all] at this
  have H := Lib.hid (h.below hbk); clear h
  have Hc := Lib.hid hnc; clear hnc
  have Hg := Lib.hid (fun w' (h : (w.alloc (.cells (l.map (Value.int .i64)).toArray 2)).grownBy w' (some g)) => grown_from_alloc h)
  have hsz : w.heap.size < (w.alloc (.cells (l.map (Value.int .i64)).toArray 2)).heap.size := by simp
  have hm4 : (m : Int) ≤ 200 := by omega
  clear hbk
  generalize w.alloc (.cells (l.map (Value.int .i64)).toArray 2) = wl at *
  go_enter Tryd.func91, Tryd.ntmps91
  go_wp2_with fail
  refine (pick_any B g k bs m _ H.out (by omega)).mono ?_; rintro e w1 ⟨x, rfl, ⟨hx0, hx1, _⟩, hs1, hg1⟩
  have Hs1 := Lib.hid hs1; clear hs1
  obtain ⟨i, rfl⟩ : ∃ i : Nat, x = i := ⟨x.toNat, by omega⟩
  have hx2 := hx1 (by omega)
  have hi : i < l.length := by omega
  have hcell := (World.cell?_of_block (a := ⟨w.heap.size, i, none⟩) (hg1.block w.heap.size hsz (fun e => by injection e; omega))).trans (Hc.out i hi)
  have hg2 := Hg.out _ hg1
  have hin := Lib.hid (show l[i] ∈ l from List.getElem_mem hi)
  generalize l[i] = z at *
  clear hx1 hg1
  go_wp2_with fail
  go_ret
  exact ⟨z, hin.out, rfl, Hs1.out, hg2⟩
end Go.Proofs.YtepgfcjfdnakbaaDoor
/- Errors of tables, part 6: draws. -/
namespace Go.Proofs.YtepgfcjfdnakbaaDoor
open Go.RowKit Go.Joins

theorem own_gs {wr w2 : World} {gs B n sz : Nat} {e : TypeId} {v : Value} {xs : List Value} (h : wr.ownsRow B e sz v n xs) (h2 : wr.grownBy w2 (some gs)) (hgs : gs < B) : w2.ownsRow B e sz v n xs :=
  h.kept h2 (.inr (fun e => by have := (h.lt gs e).1; omega))
theorem grown_own {w w1 w2 : World} {g n sz : Nat} {e : TypeId} {v : Value} {xs : List Value} (h : w.grownBy w1 (some g)) (ho : w1.ownsRow w.heap.size e sz v n xs) (h2 : w1.grownBy w2 v.ownBlock) : w.grownBy w2 (some g) :=
  ⟨h2.os.trans h.os, h2.tape.trans h.tape, h2.output.trans h.output, Nat.le_trans h.size h2.size, fun i hi hne => (h2.block i (Nat.lt_of_lt_of_le hi h.size) (fun e => by have := (ho.lt i e.symm).1; omega)).trans (h.block i hi hne)⟩
theorem grown_set (w' : World) (g i : Nat) (v : Value) : w'.grownBy (w'.setCell ⟨g, i, none⟩ v) (some g) :=
  ⟨rfl, rfl, rfl, by simp [World.setCell], fun i _ hi => Below.heap_setCell _ _ _ _ (fun e => hi (by rw [e]))⟩
theorem grown_refl (w : World) (r : Option Nat) : w.grownBy w r := ⟨rfl, rfl, rfl, Nat.le_refl _, fun _ _ _ => rfl⟩

def Drawn2 (w : World) (B g k : Nat) (bs : List UInt8) (e : Ending) (w' : World) : Prop :=
  ∃ x y, e = .returned (.tuple #[.int .i64 x, .int .i64 y]) ∧ SrcAt w' B g k bs ∧ w.grownBy w' (some g)
/-- a list is drawn -/
def DrawnL (M : Nat) (w : World) (B g k : Nat) (bs : List UInt8) (e : Ending) (w' : World) : Prop :=
  ∃ v n f, e = .returned v ∧ n ≤ M ∧ w'.ownsRow w.heap.size 2 1 v n (tab n f) ∧ SrcAt w' B g k bs ∧ w.grownBy w' (some g)
theorem tab_more (n : Nat) (f : Nat → Int) (x : Int) : ∃ f', tab (n + 1) f' = tab n f ++ [.int .i64 x] := ⟨fun i => if i < n then f i else x, by
  rw [tab_succ, if_neg (by omega)]
  congr 1
  exact tab_congr fun i hi => by rw [if_pos hi]⟩
end Go.Proofs.YtepgfcjfdnakbaaDoor
/- Inventories, part 6: the pieces that belong to a piece, both sides. -/
namespace Go.Proofs.YtepgfcjfdnakbaaDoor
open Go.RowKit Go.Joins

/-- numbers as cells -/
def natV (l : List Nat) : List Value := l.map fun (i : Nat) => .int .i64 (i : Int)
theorem natV_snoc (l : List Nat) (x : Nat) : natV (l ++ [x]) = natV l ++ [.int .i64 (x : Int)] := by simp [natV]
theorem natV_len (l : List Nat) : (natV l).length = l.length := by simp [natV]
def uL (xs : List Pc) (k n : Nat) : List Nat := (List.range n).filter fun i => decide (k < i) && und xs k i
theorem uL_yes {xs : List Pc} {k n : Nat} (h : k < n) (hu : und xs k n = true) : uL xs k (n + 1) = uL xs k n ++ [n] := by
  unfold uL
  rw [List.range_succ, List.filter_append]
  congr 1
  simp [h, hu]
theorem uL_no {xs : List Pc} {k n : Nat} (hu : und xs k n = false) : uL xs k (n + 1) = uL xs k n := by
  unfold uL
  rw [List.range_succ, List.filter_append]
  simp [hu]
theorem uL_start (xs : List Pc) (k : Nat) : uL xs k (k + 1) = [] := by
  unfold uL
  rw [List.filter_eq_nil_iff]
  intro i hi
  have := List.mem_range.1 hi
  simp; omega
theorem uL_len (xs : List Pc) (k n : Nat) : (uL xs k n).length ≤ n := by
  unfold uL
  exact Nat.le_trans (List.length_filter_le _ _) (by simp)
/-- the marks in front of place m -/
def mkU (xs : List Pc) (k m : Nat) : Nat → Bool := fun j => decide (j < m) && und xs k j
theorem mkU_at {xs : List Pc} {k m j : Nat} (h : j < m) : mkU xs k m j = und xs k j := by unfold mkU; rw [decide_eq_true h, Bool.true_and]
theorem mkU_start (xs : List Pc) (k n : Nat) : tabB n (putB (fun _ => false) k true) = tabB n (mkU xs k (k + 1)) := tabB_congr fun i _ => by
  unfold putB mkU
  by_cases h : i = k
  · subst h; rw [if_pos rfl, und_self]; simp
  · rw [if_neg h]
    by_cases h2 : i < k
    · rw [und_lt xs h2]; simp
    · rw [decide_eq_false (by omega)]; rfl
theorem mkU_yes {xs : List Pc} {k n m : Nat} (hu : und xs k m = true) : tabB n (putB (mkU xs k m) m true) = tabB n (mkU xs k (m + 1)) := tabB_congr fun i _ => by
  unfold putB mkU
  by_cases h : i = m
  · subst h; rw [if_pos rfl, hu]; simp
  · rw [if_neg h]
    have : decide (i < m) = decide (i < m + 1) := by by_cases h2 : i < m <;> simp [h2] <;> omega
    rw [this]
theorem mkU_no {xs : List Pc} {k n m : Nat} (hu : und xs k m = false) : tabB n (mkU xs k m) = tabB n (mkU xs k (m + 1)) := tabB_congr fun i _ => by
  unfold mkU
  by_cases h : i = m
  · subst h; rw [hu]; simp
  · have : decide (i < m) = decide (i < m + 1) := by by_cases h2 : i < m <;> simp [h2] <;> omega
    rw [this]
/-- a row of numbers of the call's own -/
def RetUL (l : List Nat) (w : World) (e : Ending) (w' : World) : Prop := ∃ v, e = .returned v ∧ w'.ownsRow w.heap.size 2 1 v l.length (natV l) ∧ Below w.heap.size w w'
set_option maxRecDepth 100000 in
set_option maxHeartbeats 3200000 in
theorem under_any (B : Nat) (v : Value) (xs : List Pc) (k : Nat) (w : World) (h : RdP w B v xs) (hB : B ≤ w.heap.size) (hn : xs.length ≤ 40) (hs : Shp xs xs.length) (hk : k < xs.length) :
    Calls Tryd.prog 57 #[v, .int .i64 (k : Int)] w (RetUL (uL xs k xs.length) w) := by
  have H := Lib.hid h
  have HS := Lib.hid hs
  obtain ⟨A, c, rfl⟩ := h.slice
  clear h hs
  obtain ⟨wB, hmk, hob, hbb⟩ := mk_bools xs.length (by omega) w
  have hwB : w.heap.size < wB.heap.size := (hob.lt w.heap.size rfl).2
  obtain ⟨d0, d1⟩ := own_cellB hob k hk
  have hob3 := (hob.stored k (.bool true)).1
  rw [tabB_set, mkU_start xs] at hob3
  have hbs := hbb.setCell (p := ⟨w.heap.size, k, none⟩) (Nat.le_refl _) (.bool true)
  have hsS : (wB.setCell ⟨w.heap.size, k, none⟩ (.bool true)).heap.size = wB.heap.size := by simp [World.setCell]
  have hal := (Below.refl (wB.setCell ⟨w.heap.size, k, none⟩ (.bool true)).heap.size (wB.setCell ⟨w.heap.size, k, none⟩ (.bool true))).alloc (Nat.le_refl _) (.cells #[] 2)
  have HoB := Lib.hid (own_below hob3 hal)
  have hon := World.ownsRow_made (base := (wB.setCell ⟨w.heap.size, k, none⟩ (.bool true)).heap.size) (e := 2) (size := 1) (wB.setCell ⟨w.heap.size, k, none⟩ (.bool true)) #[] 0 (Nat.le_refl _) (by simp [maxLen]) rfl
  rw [hsS] at hon
  have HoN := Lib.hid hon
  have HbN := Lib.hid (hbs.trans (hal.mono hbs.size))
  have HsN := Lib.hid (show wB.heap.size ≤ ((wB.setCell ⟨w.heap.size, k, none⟩ (.bool true)).alloc (.cells #[] 2)).heap.size from by rw [← hsS]; exact hal.size)
  have hkl : (k : Int) < (xs.length : Int) := by omega
  clear hob hbb hob3 hbs hsS hal hon
  go_enter Tryd.func57, Tryd.ntmps57
  go_wp2_with fail
  go_loopw [6, 7] (fun r i wr => ∃ m : Nat, k + 1 ≤ m ∧ m ≤ xs.length ∧ i = .int .i64 (m : Int) ∧ wr.ownsRow w.heap.size 4 1 (.slice (some ⟨w.heap.size, 0, none⟩) xs.length xs.length) xs.length (tabB xs.length (mkU xs k m)) ∧ wr.ownsRow wB.heap.size 2 1 r (uL xs k m).length (natV (uL xs k m)) ∧ Below w.heap.size w wr ∧ wB.heap.size ≤ wr.heap.size) (fun _ i _ => xs.length - (intOf i).toNat)
  case atStart => exact ⟨k + 1, Nat.le_refl _, by omega, by first | rfl | (congr 1; omega), HoB.out, by rw [uL_start]; exact HoN.out, HbN.out, HsN.out⟩
  case round =>
    obtain ⟨m, hm1, hm2, rfl, hob, hor, hbl, hsz⟩ := hrel
    have Hsz := Lib.hid hsz
    obtain ⟨A3, c3, rfl⟩ := own_sl hor
    have Hob := Lib.hid hob
    have Hor := Lib.hid hor
    have Hbl := Lib.hid hbl
    clear HoB HoN HbN HsN hsz
    by_cases hlt : m < xs.length
    · obtain ⟨gb, ob, hA, hat⟩ := (H.out.below (hbl.mono hB)).at m hlt
      subst hA
      have q1 := hat.c1
      have hp := HS.out.par m (by omega) hlt
      have hst := und_step HS.out (k := k) (show k < m by omega) hlt
      obtain ⟨p, hpe⟩ : ∃ p : Nat, (pg xs m).par = (p : Int) := ⟨(pg xs m).par.toNat, by omega⟩
      rw [hpe] at q1 hp hst
      rw [Int.toNat_natCast] at hst
      obtain ⟨y0, y1⟩ := own_cellB hob p (by omega)
      rw [mkU_at (by omega), ← hst] at y0
      obtain ⟨z0, z1⟩ := own_cellB hob m hlt
      have hlt' : (m : Int) < (xs.length : Int) := by omega
      have hpl : (p : Int) < (xs.length : Int) := by omega
      have hll := uL_len xs k m
      clear hat hst hpe hob hor hbl
      cases hu : und xs k m with
      | false =>
        have E1 := Lib.hid (mkU_no (n := xs.length) hu)
        have E2 := Lib.hid (uL_no hu)
        rw [hu] at y0
        clear hu
        go_wp2_with fail
        go_roundw
        case rel => exact ⟨m + 1, by omega, by omega, by go_num, by rw [← E1.out]; exact Hob.out, by rw [E2.out]; exact Hor.out, Hbl.out, Hsz.out⟩
        case measure => first | (simp [intOf]; done) | (simp [intOf]; omega)
      | true =>
        have E1 := Lib.hid (mkU_yes (n := xs.length) hu)
        have E2 := Lib.hid (uL_yes (show k < m by omega) hu)
        have hob4 := (Hob.out.stored m (.bool true)).1
        rw [tabB_set, E1.out] at hob4
        have Hob4 := Lib.hid hob4
        have Hor4 := Lib.hid (ownsRow_setCell_below Hor.out (a := ⟨w.heap.size, m, none⟩) hwB (.bool true))
        have Hbl4 := Lib.hid (Hbl.out.setCell (p := ⟨w.heap.size, m, none⟩) (Nat.le_refl _) (.bool true))
        rw [hu] at y0
        clear hu hob4
        have hw5 : wB.heap.size ≤ (wr.setCell ⟨w.heap.size, m, none⟩ (.bool true)).heap.size := by have := Hsz.out; simpa [World.setCell] using this
        go_upto_region 8 with (fail)
        generalize wr.setCell ⟨w.heap.size, m, none⟩ (.bool true) = w4 at *
        have Hsn := Lib.hid (natV_snoc (uL xs k m) m)
        have hw4 := Hbl4.out.size
        clear y0 y1 z0 z1 q1
        generalize hL : uL xs k m = L at *
        go_wp2_with (at_builtin; refine wpList_apd 29 2 _ 1 8 Tryd.underlying29 infoD rfl (by omega) _ _ rfl rfl wB.heap.size _ L.length _ rfl Hor4.out #[.int .i64 (m : Int)] 1 1 rfl rfl (by simp [Value.oneCell']) (by simp [maxLen]; omega) (by omega) hw5 ?_; intro v8 w8 hown8 hg8; have Hb8 := Lib.hid (Hbl4.out.grown hg8 hw4 (fun x hx => by have := (Hor4.out.lt x hx).1; omega)); have Hob8 := Lib.hid (Hob4.out.kept hg8 (.inr (fun e => by have := (Hor4.out.lt w.heap.size e.symm).1; omega))); have Hs8 := Lib.hid (Nat.le_trans hw5 hg8.size); obtain ⟨A8, c8, rfl⟩ := own_sl hown8; have Hown8 := Lib.hid hown8; clear hown8 hg8)
        go_roundw
        case rel => exact ⟨m + 1, by omega, by omega, by go_num, Hob8.out, by rw [E2.out, Hsn.out, List.length_append]; exact Hown8.out, Hb8.out, Hs8.out⟩
        case measure => first | (simp [intOf]; done) | (simp [intOf]; omega)
    · obtain rfl : m = xs.length := by omega
      have hlt' : ¬ ((xs.length : Int) < (xs.length : Int)) := by omega
      have Hfin := Lib.hid (ownsRow_le Hor.out (Nat.le_of_lt hwB))
      go_wp2_with fail
      go_ret
      exact ⟨_, rfl, Hfin.out, Hbl.out⟩
end Go.Proofs.YtepgfcjfdnakbaaDoor
/- Inventories, part 7: l21Under (reference) and PiecesUnder (program). -/
namespace Go.Proofs.YtepgfcjfdnakbaaDoor
open Go.RowKit Go.Joins

theorem mkU_put (xs : List Pc) (k m n : Nat) : tabB n (putB (mkU xs k m) m (und xs k m)) = tabB n (mkU xs k (m + 1)) := by
  cases hu : und xs k m with
  | true => exact mkU_yes hu
  | false =>
    rw [← mkU_no hu]
    refine tabB_congr fun i _ => ?_
    unfold putB
    by_cases h : i = m
    · subst h; rw [if_pos rfl]; unfold mkU; rw [hu, Bool.and_false]
    · rw [if_neg h]
/-- a row of truth values of the call's own -/
def RetBo (n : Nat) (f : Nat → Bool) (w : World) (e : Ending) (w' : World) : Prop := ∃ cap, e = .returned (.slice (some ⟨w.heap.size, 0, none⟩) n cap) ∧ w'.ownsRow w.heap.size 4 1 (.slice (some ⟨w.heap.size, 0, none⟩) n cap) n (tabB n f) ∧ Below w.heap.size w w'
set_option maxRecDepth 100000 in
set_option maxHeartbeats 3200000 in
theorem l21Under_any (B : Nat) (v : Value) (xs : List Pc) (k : Nat) (w : World) (h : RdP w B v xs) (hB : B ≤ w.heap.size) (hn : xs.length ≤ 40) (hs : Shp xs xs.length) (hk : k < xs.length) :
    Calls Tryd.prog 58 #[v, .int .i64 (k : Int)] w (RetBo xs.length (und xs k) w) := by
  have H := Lib.hid h
  have HS := Lib.hid hs
  obtain ⟨A, c, rfl⟩ := h.slice
  clear h hs
  obtain ⟨wB, hmk, hob, hbb⟩ := mk_bools xs.length (by omega) w
  obtain ⟨d0, d1⟩ := own_cellB hob k hk
  have hob3 := (hob.stored k (.bool true)).1
  rw [tabB_set, mkU_start xs] at hob3
  have HoB := Lib.hid hob3
  have HbN := Lib.hid (hbb.setCell (p := ⟨w.heap.size, k, none⟩) (Nat.le_refl _) (.bool true))
  have hkl : (k : Int) < (xs.length : Int) := by omega
  clear hob hbb hob3
  go_enter Tryd.func58, Tryd.ntmps58
  go_wp2_with fail
  go_loopw [6] (fun i wr => ∃ m : Nat, k + 1 ≤ m ∧ m ≤ xs.length ∧ i = .int .i64 (m : Int) ∧ wr.ownsRow w.heap.size 4 1 (.slice (some ⟨w.heap.size, 0, none⟩) xs.length xs.length) xs.length (tabB xs.length (mkU xs k m)) ∧ Below w.heap.size w wr) (fun i _ => xs.length - (intOf i).toNat)
  case atStart => exact ⟨k + 1, Nat.le_refl _, by omega, by first | rfl | (congr 1; omega), HoB.out, HbN.out⟩
  case round =>
    obtain ⟨m, hm1, hm2, rfl, hob, hbl⟩ := hrel
    have Hbl := Lib.hid hbl
    have Hob := Lib.hid hob
    clear HoB HbN
    by_cases hlt : m < xs.length
    · obtain ⟨gb, ob, hA, hat⟩ := (H.out.below (hbl.mono hB)).at m hlt
      subst hA
      have q1 := hat.c1
      have hp := HS.out.par m (by omega) hlt
      have hst := und_step HS.out (k := k) (show k < m by omega) hlt
      obtain ⟨p, hpe⟩ : ∃ p : Nat, (pg xs m).par = (p : Int) := ⟨(pg xs m).par.toNat, by omega⟩
      rw [hpe] at q1 hp hst
      rw [Int.toNat_natCast] at hst
      obtain ⟨y0, y1⟩ := own_cellB hob p (by omega)
      rw [mkU_at (by omega), ← hst] at y0
      obtain ⟨z0, z1⟩ := own_cellB hob m hlt
      have hob4 := (hob.stored m (.bool (und xs k m))).1
      rw [tabB_set, mkU_put] at hob4
      have Hob4 := Lib.hid hob4
      have Hbl4 := Lib.hid (Hbl.out.setCell (p := ⟨w.heap.size, m, none⟩) (Nat.le_refl _) (.bool (und xs k m)))
      have hlt' : (m : Int) < (xs.length : Int) := by omega
      have hpl : (p : Int) < (xs.length : Int) := by omega
      clear hat hst hpe hob hbl hob4
      generalize und xs k m = u at *
      go_wp2_with fail
      go_roundw
      case rel => exact ⟨m + 1, by omega, by omega, by go_num, Hob4.out, Hbl4.out⟩
      case measure => first | (simp [intOf]; done) | (simp [intOf]; omega)
    · obtain rfl : m = xs.length := by omega
      have hlt' : ¬ ((xs.length : Int) < (xs.length : Int)) := by omega
      have he : tabB xs.length (mkU xs k xs.length) = tabB xs.length (und xs k) := tabB_congr fun i hi => mkU_at hi
      rw [he] at hob
      have Hfin := Lib.hid hob
      clear hob he
      go_wp2_with fail
      go_ret
      exact ⟨_, rfl, Hfin.out, Hbl.out⟩
/-- numbers and a code -/
def uC (xs : List Pc) (k : Int) : List Nat := if cdP xs k = 0 then uL xs k.toNat xs.length else []
def RetUC (xs : List Pc) (k : Int) (w : World) (e : Ending) (w' : World) : Prop := ∃ v, e = .returned (.tuple #[v, .int .i64 (cdP xs k)]) ∧ w'.ownsRow w.heap.size 2 1 v (uC xs k).length (natV (uC xs k)) ∧ Below w.heap.size w w'
theorem RetUC.bad {xs : List Pc} {k c : Int} {w w' : World} (h : cdP xs k = c) (hc : c ≠ 0) (hb : Below w.heap.size w w') : RetUC xs k w (.returned (.tuple #[.slice none 0 0, .int .i64 c])) w' := by
  have e : uC xs k = [] := by unfold uC; rw [h, if_neg hc]
  refine ⟨_, by rw [h], ?_, hb⟩
  rw [e]
  exact ⟨by simp [natV], .inl ⟨rfl, rfl⟩⟩
theorem cdP_cases (xs : List Pc) (k : Int) : cdP xs k = 0 ∨ cdP xs k = 1 ∨ cdP xs k = 2 := by
  unfold cdP
  split
  · split
    · exact .inl rfl
    · exact .inr (.inr rfl)
  · exact .inr (.inl rfl)
set_option maxRecDepth 100000 in
set_option maxHeartbeats 1600000 in
theorem PUnderI_any (B : Nat) (v : Value) (xs : List Pc) (k : Int) (w : World) (h : RdP w B v xs) (hB : B ≤ w.heap.size) (hn : xs.length ≤ 100000) (hz : szP xs) :
    Calls Tryd.prog 11 #[v, .int .i64 k] w (RetUC xs k w) := by
  have HC := Lib.hid (codeI_any B v xs k w h hB hn hz)
  have H := Lib.hid h
  obtain ⟨A, c, rfl⟩ := h.slice
  clear h hz
  by_cases h0 : cdP xs k = 0
  · obtain ⟨hok, j, rfl, hj⟩ := cdP_ok h0
    obtain ⟨⟨_, hl40⟩, _, hsh, _⟩ := okP_ok hok
    have HU := Lib.hid (fun wx hx hz => under_any B (.slice A xs.length c) xs j wx hx hz hl40 hsh hj)
    have Hfin := Lib.hid (fun v w' (ho : w'.ownsRow w.heap.size 2 1 v (uL xs j xs.length).length (natV (uL xs j xs.length))) (hb : Below w.heap.size w w') => (show RetUC xs (j : Int) w (.returned (.tuple #[v, .int .i64 0])) w' from by
      have e : uC xs (j : Int) = uL xs j xs.length := by unfold uC; rw [if_pos h0, Int.toNat_natCast]
      exact ⟨v, by rw [h0], by rw [e]; exact ho, hb⟩))
    unfold RetUL at HU
    rw [h0] at HC
    clear h0 hok hsh
    go_enter Tryd.func11, Tryd.ntmps11
    go_wp2_with fail
    refine (HC.out).mono ?_; rintro e w2 ⟨rfl, hb2⟩
    have Hb2 := Lib.hid hb2
    have HU2 := Lib.hid (HU.out w2 (H.out.below (hb2.mono hB)) (Nat.le_trans hB hb2.size))
    clear hb2 HU
    go_wp2_with fail
    refine (HU2.out).mono ?_; rintro e w3 ⟨v3, rfl, ho3, hb3⟩
    have Hz := Lib.hid (Hfin.out v3 w3 (ownsRow_le ho3 Hb2.out.size) (Hb2.out.trans (hb3.mono Hb2.out.size)))
    obtain ⟨A3, c3, rfl⟩ := own_sl ho3
    clear ho3 hb3
    go_wp2_with fail
    go_ret2
    exact Hz.out
  · obtain ⟨c1, hc1⟩ : ∃ z, cdP xs k = z := ⟨_, rfl⟩
    rw [hc1] at HC h0
    have HE := Lib.hid (fun w' hb => RetUC.bad (w := w) (w' := w') hc1 h0 hb)
    have hcb : (c1 == 0) = false := by simp [h0]
    have hcb2 : (c1 != 0) = true := by simp [h0]
    clear hc1
    go_enter Tryd.func11, Tryd.ntmps11
    go_wp2_with fail
    refine (HC.out).mono ?_; rintro e w2 ⟨rfl, hb2⟩
    have Hz := Lib.hid (HE.out w2 hb2)
    clear hb2
    go_wp2_with fail
    go_ret2
    exact Hz.out
end Go.Proofs.YtepgfcjfdnakbaaDoor
/- Inventories, part 8: codes of a stock (gen_pc8.py). -/
namespace Go.Proofs.YtepgfcjfdnakbaaDoor
open Go.RowKit Go.Joins

def stkB (n : Nat) (f : Nat → Int) : Bool := allN n (fun i => inB (f i) 0 1000000000000)
def stC (xs : List Pc) (n : Nat) (f : Nat → Int) : Int := if okP xs then (if stkB n f then (if n = xs.length then 0 else 6) else 2) else 1
theorem stC_bad {xs : List Pc} {n : Nat} {f : Nat → Int} (h : okP xs = false) : stC xs n f = 1 := by unfold stC; rw [h]; rfl
theorem stC_rng {xs : List Pc} {n : Nat} {f : Nat → Int} (h : okP xs = true) (h2 : stkB n f = false) : stC xs n f = 2 := by unfold stC; rw [h, h2]; rfl
theorem stC_len {xs : List Pc} {n : Nat} {f : Nat → Int} (h : okP xs = true) (h2 : stkB n f = true) (h3 : n ≠ xs.length) : stC xs n f = 6 := by unfold stC; rw [h, h2, if_pos rfl, if_pos rfl, if_neg h3]
theorem stC_yes {xs : List Pc} {n : Nat} {f : Nat → Int} (h : okP xs = true) (h2 : stkB n f = true) (h3 : n = xs.length) : stC xs n f = 0 := by unfold stC; rw [h, h2, if_pos rfl, if_pos rfl, if_pos h3]
theorem stC_ok {xs : List Pc} {n : Nat} {f : Nat → Int} (h : stC xs n f = 0) : okP xs = true ∧ n = xs.length ∧ ∀ i, i < n → 0 ≤ f i ∧ f i ≤ 1000000000000 := by
  cases h1 : okP xs with
  | false => rw [stC_bad h1] at h; cases h
  | true =>
    cases h2 : stkB n f with
    | false => rw [stC_rng h1 h2] at h; cases h
    | true =>
      by_cases h3 : n = xs.length
      · exact ⟨rfl, h3, fun i hi => inB_iff.1 (allN_get h2 hi)⟩
      · rw [stC_len h1 h2 h3] at h; cases h
theorem stC_cases (xs : List Pc) (n : Nat) (f : Nat → Int) : stC xs n f = 0 ∨ stC xs n f = 1 ∨ stC xs n f = 2 ∨ stC xs n f = 6 := by
  unfold stC
  split
  · split
    · split
      · exact .inl rfl
      · exact .inr (.inr (.inr rfl))
    · exact .inr (.inr (.inl rfl))
  · exact .inr (.inl rfl)
theorem RdF_below {w w' : World} {B : Nat} {v : Value} {n : Nat} {f : Nat → Int} (h : Rd w B v n 1 (tab n f)) (hb : Below B w w') : Rd w' B v n 1 (tab n f) := Rd.below h hb
end Go.Proofs.YtepgfcjfdnakbaaDoor
/- Inventories, part 9: what is missing for some machines, both sides (gen_pc9.py). -/
namespace Go.Proofs.YtepgfcjfdnakbaaDoor
open Go.RowKit Go.Joins

def needS (xs : List Pc) (mm : Int) (T : Nat → Int) (k : Nat) : Int := if k = 0 then mm * (pg xs 0).each else (pg xs k).each * T (pg xs k).par.toNat
def msS (xs : List Pc) (st : Nat → Int) (mm : Int) (T : Nat → Int) (k : Nat) : Int := max 0 (needS xs mm T k - st k)
def ms (xs : List Pc) (st : Nat → Int) (mm : Int) : Nat → Int := tv 0 (msS xs st mm)
def need (xs : List Pc) (st : Nat → Int) (mm : Int) (k : Nat) : Int := needS xs mm (ms xs st mm) k
theorem ms_eq {xs : List Pc} {n : Nat} (hs : Shp xs n) (st : Nat → Int) (mm : Int) {k : Nat} (hk : k < n) : ms xs st mm k = max 0 (need xs st mm k - st k) := by
  unfold ms need
  rw [tv_eq]
  show max 0 (needS xs mm (fun i => if i < k then tv 0 (msS xs st mm) i else 0) k - st k) = _
  unfold needS
  by_cases h0 : k = 0
  · rw [if_pos h0, if_pos h0]
  · have hp := hs.par k (by omega) hk
    rw [if_neg h0, if_neg h0]
    show max 0 ((pg xs k).each * (if (pg xs k).par.toNat < k then tv 0 (msS xs st mm) (pg xs k).par.toNat else 0) - st k) = _
    rw [if_pos (by omega)]
    rfl
theorem ms_bd {xs : List Pc} {n : Nat} (hs : Shp xs n) {st : Nat → Int} {M : Nat} (hst : ∀ i, i < n → 0 ≤ st i) : ∀ k, k < n → 0 ≤ ms xs st (M : Int) k ∧ ms xs st (M : Int) k ≤ ((M * tot xs k : Nat) : Int) ∧ 0 ≤ need xs st (M : Int) k ∧ need xs st (M : Int) k ≤ ((M * tot xs k : Nat) : Int) := by
  intro k
  induction k using Nat.strongRecOn with
  | ind k ih =>
    intro hk
    have he := hs.each k hk
    have hq := hst k hk
    have hnd : 0 ≤ need xs st (M : Int) k ∧ need xs st (M : Int) k ≤ ((M * tot xs k : Nat) : Int) := by
      unfold need needS
      by_cases h0 : k = 0
      · subst h0
        rw [if_pos rfl, tot_zero hs hk]
        have e : (M : Int) * (pg xs 0).each = ((M * (pg xs 0).each.toNat : Nat) : Int) := by rw [Int.natCast_mul]; congr 1; omega
        rw [e]
        omega
      · have hp := hs.par k (by omega) hk
        have hi := ih (pg xs k).par.toNat (by omega) (by omega)
        rw [if_neg h0, tot_step hs (by omega) hk]
        obtain ⟨y, hy⟩ : ∃ y : Nat, ms xs st (M : Int) (pg xs k).par.toNat = (y : Int) := ⟨(ms xs st (M : Int) (pg xs k).par.toNat).toNat, by omega⟩
        rw [hy] at hi ⊢
        have e : (pg xs k).each * (y : Int) = (((pg xs k).each.toNat * y : Nat) : Int) := by rw [Int.natCast_mul]; congr 1; omega
        rw [e]
        have := Nat.mul_le_mul_left (pg xs k).each.toNat (show y ≤ M * tot xs (pg xs k).par.toNat by omega)
        have e2 : M * ((pg xs k).each.toNat * tot xs (pg xs k).par.toNat) = (pg xs k).each.toNat * (M * tot xs (pg xs k).par.toNat) := by rw [Nat.mul_left_comm]
        rw [e2]
        omega
    rw [ms_eq hs st _ hk]
    omega
theorem ms_big {xs : List Pc} {n M : Nat} (hs : Shp xs n) {st : Nat → Int} (hst : ∀ i, i < n → 0 ≤ st i) (ht : ∀ i, i < n → tot xs i ≤ 1000000) (hM : M ≤ 1000000) {k : Nat} (hk : k < n) :
    (0 ≤ ms xs st (M : Int) k ∧ ms xs st (M : Int) k ≤ 1000000000000) ∧ 0 ≤ need xs st (M : Int) k ∧ need xs st (M : Int) k ≤ 1000000000000 := by
  have h := ms_bd hs (M := M) hst k hk
  have := Nat.mul_le_mul hM (ht k hk)
  omega
theorem tab_sn (n : Nat) (F : Nat → Int) : tab n F ++ (#[Value.int .i64 (F n)] : Array Value).toList = tab (n + 1) F := (tab_succ n F).symm
theorem own_cellsI {w : World} {base n c : Nat} {A : Option Addr} {f : Nat → Int} (h : w.ownsRow base 2 1 (.slice A n c) n (tab n f)) (hn : 0 < n) :
    ∃ b, A = some ⟨b, 0, none⟩ ∧ base ≤ b ∧ b < w.heap.size ∧ ∀ j, j < n → w.cell? ⟨b, j, none⟩ = some (.int .i64 (f j)) := by
  obtain ⟨b, cap, hv, _⟩ := own_posC h hn
  injection hv with hA
  subst hA
  have hl := h.lt b rfl
  obtain ⟨bb, oo, hA2, _, hc⟩ := rdF_all (Rd.of_own h) hn
  injection hA2 with hA2
  injection hA2 with e1 e2
  subst e1
  subst e2
  exact ⟨b, rfl, hl.1, hl.2, fun j hj => by have := hc j hj; rwa [Nat.zero_add] at this⟩
/-- a row of numbers of the call's own -/
def RetTb (n : Nat) (f : Nat → Int) (w : World) (e : Ending) (w' : World) : Prop := ∃ v, e = .returned v ∧ w'.ownsRow w.heap.size 2 1 v n (tab n f) ∧ Below w.heap.size w w'
end Go.Proofs.YtepgfcjfdnakbaaDoor
/- Two rows of numbers are equal: sameNumbers, l00Same (gen_jc4.py, out of Dm7). -/
namespace Go.Proofs.YtepgfcjfdnakbaaDoor
open Go.RowKit Go.Joins

def smJ (n m : Nat) (f g : Nat → Int) : Bool := decide (n = m) && (List.range n).all fun i => f i == g i
theorem smJ_yes {n : Nat} {f g : Nat → Int} (h : ∀ j, j < n → f j = g j) : smJ n n f g = true := by
  unfold smJ
  rw [decide_eq_true rfl, Bool.true_and, List.all_eq_true]
  intro i hi
  rw [h i (List.mem_range.1 hi)]; simp
theorem smJ_no {n : Nat} {f g : Nat → Int} (i : Nat) (hi : i < n) (h : f i ≠ g i) : smJ n n f g = false := by
  cases hs : smJ n n f g with
  | false => rfl
  | true =>
    unfold smJ at hs
    rw [decide_eq_true rfl, Bool.true_and, List.all_eq_true] at hs
    have := hs i (List.mem_range.2 hi)
    exact absurd (by simpa using this) h
theorem smJ_ne {n m : Nat} {f g : Nat → Int} (h : n ≠ m) : smJ n m f g = false := by unfold smJ; rw [decide_eq_false h]; rfl
set_option maxRecDepth 100000 in
set_option maxHeartbeats 1600000 in
theorem sameNumJ_any (B1 B2 : Nat) (v1 v2 : Value) (n m : Nat) (f g : Nat → Int) (w : World) (h1 : Rd w B1 v1 n 1 (tab n f)) (h2 : Rd w B2 v2 m 1 (tab m g)) (hn : n ≤ 1048576) :
    Calls Tryd.prog 89 #[v1, v2] w fun e w' => e = .returned (.bool (smJ n m f g)) ∧ ∃ k, w' = w.drewN k := by
  have H1 := Lib.hid h1
  have H2 := Lib.hid h2
  obtain ⟨A1, c1, rfl⟩ := rd_sl h1
  obtain ⟨A2, c2, rfl⟩ := rd_sl h2
  clear h1 h2
  by_cases hnm : n = m
  · subst hnm
    have Hy := Lib.hid (fun h => smJ_yes (n := n) (f := f) (g := g) h)
    have Hno := Lib.hid (fun i hi h => smJ_no (n := n) (f := f) (g := g) i hi h)
    generalize smJ n n f g = r at *
    have hb : ((n : Int) != (n : Int)) = false := by simp
    go_enter Tryd.func89, Tryd.ntmps89
    go_wp2_with fail
    go_loopw [13] (fun i wr => ∃ k m0 : Nat, k ≤ n ∧ i = .int .i64 (k : Int) ∧ (∀ j, j < k → f j = g j) ∧ wr = w.drewN m0) (fun i _ => n - (intOf i).toNat)
    case atStart => exact ⟨0, 0, Nat.zero_le _, rfl, fun j hj => absurd hj (by omega), rfl⟩
    case round =>
      obtain ⟨k, m0, hk, rfl, hall, hwr⟩ := hrel
      have Hall := Lib.hid hall
      have Hw := Lib.hid (fun n => (show wr.drewN n = w.drewN (m0 + n) by rw [hwr, World.drewN_drewN]))
      have Hw0 := Lib.hid hwr
      have R1 : Hid (Rd wr B1 (.slice A1 n c1) n 1 (tab n f)) := Lib.hid (by rw [hwr]; exact H1.out.drewN m0)
      have R2 : Hid (Rd wr B2 (.slice A2 n c2) n 1 (tab n g)) := Lib.hid (by rw [hwr]; exact H2.out.drewN m0)
      clear hwr hall
      by_cases hlt : k < n
      · have hlt' : (k : Int) < (n : Int) := by omega
        obtain ⟨x1, o1, hA1, _, d1⟩ := rdF_all R1.out (by omega)
        obtain ⟨x2, o2, hA2, _, d2⟩ := rdF_all R2.out (by omega)
        subst hA1 hA2
        have e1 := d1 k hlt
        have e2 := d2 k hlt
        clear d1 d2
        by_cases he : f k = g k
        · have hb2 : (f k != g k) = false := by rw [he]; simp
          have Hnx := Lib.hid (show ∀ j, j < k + 1 → f j = g j from fun j hj => by
            by_cases e : j = k
            · rw [e]; exact he
            · exact Hall.out j (by omega))
          go_wp2_with fail
          go_quiet (fail)
          go_wp2_with fail
          go_roundw
          case rel => exact ⟨k + 1, _, by omega, by go_num, Hnx.out, Hw.out _⟩
          case measure => simp [intOf]; omega
        · have hb2 : (f k != g k) = true := by simpa using he
          have hr := Hno.out k hlt he
          subst hr
          go_wp2_with fail
          go_quiet (fail)
          go_wp2_with fail
          go_ret
          exact ⟨rfl, _, Hw.out _⟩
      · have hkn : k = n := by omega
        subst hkn
        have hlt' : ¬ (k : Int) < (k : Int) := by omega
        have hr := Hy.out Hall.out
        subst hr
        go_wp2_with fail
        go_ret
        exact ⟨rfl, _, Hw0.out⟩
  · have hr : smJ n m f g = false := by unfold smJ; rw [decide_eq_false hnm]; rfl
    have hb : ((n : Int) != (m : Int)) = true := by
      rw [bne_iff_ne]; omega
    rw [hr]
    go_enter Tryd.func89, Tryd.ntmps89
    go_wp2_with fail
    go_ret
    exact ⟨rfl, 0, rfl⟩
set_option maxRecDepth 100000 in
set_option maxHeartbeats 1600000 in
theorem l00SameJ_any (B1 B2 : Nat) (v1 v2 : Value) (n m : Nat) (f g : Nat → Int) (w : World) (h1 : Rd w B1 v1 n 1 (tab n f)) (h2 : Rd w B2 v2 m 1 (tab m g)) (hn : n ≤ 1048576) :
    Calls Tryd.prog 88 #[v1, v2] w fun e w' => e = .returned (.bool (smJ n m f g)) ∧ ∃ k, w' = w.drewN k := by
  have H1 := Lib.hid h1
  have H2 := Lib.hid h2
  obtain ⟨A1, c1, rfl⟩ := rd_sl h1
  obtain ⟨A2, c2, rfl⟩ := rd_sl h2
  clear h1 h2
  by_cases hnm : n = m
  · subst hnm
    have Hy := Lib.hid (fun h => smJ_yes (n := n) (f := f) (g := g) h)
    have Hno := Lib.hid (fun i hi h => smJ_no (n := n) (f := f) (g := g) i hi h)
    generalize smJ n n f g = r at *
    have hb : ((n : Int) != (n : Int)) = false := by simp
    go_enter Tryd.func88, Tryd.ntmps88
    go_wp2_with fail
    go_loopw [5] (fun i wr => ∃ k m0 : Nat, k ≤ n ∧ i = .int .i64 (k : Int) ∧ (∀ j, j < k → f j = g j) ∧ wr = w.drewN m0) (fun i _ => n - (intOf i).toNat)
    case atStart => exact ⟨0, 0, Nat.zero_le _, rfl, fun j hj => absurd hj (by omega), rfl⟩
    case round =>
      obtain ⟨k, m0, hk, rfl, hall, hwr⟩ := hrel
      have Hall := Lib.hid hall
      have Hw := Lib.hid (fun n => (show wr.drewN n = w.drewN (m0 + n) by rw [hwr, World.drewN_drewN]))
      have Hw0 := Lib.hid hwr
      have R1 : Hid (Rd wr B1 (.slice A1 n c1) n 1 (tab n f)) := Lib.hid (by rw [hwr]; exact H1.out.drewN m0)
      have R2 : Hid (Rd wr B2 (.slice A2 n c2) n 1 (tab n g)) := Lib.hid (by rw [hwr]; exact H2.out.drewN m0)
      clear hwr hall
      by_cases hlt : k < n
      · have hlt' : (k : Int) < (n : Int) := by omega
        obtain ⟨x1, o1, hA1, _, d1⟩ := rdF_all R1.out (by omega)
        obtain ⟨x2, o2, hA2, _, d2⟩ := rdF_all R2.out (by omega)
        subst hA1 hA2
        have e1 := d1 k hlt
        have e2 := d2 k hlt
        clear d1 d2
        by_cases he : f k = g k
        · have hb2 : (f k != g k) = false := by rw [he]; simp
          have Hnx := Lib.hid (show ∀ j, j < k + 1 → f j = g j from fun j hj => by
            by_cases e : j = k
            · rw [e]; exact he
            · exact Hall.out j (by omega))
          go_wp2_with fail
          go_quiet (fail)
          go_wp2_with fail
          go_roundw
          case rel => exact ⟨k + 1, _, by omega, by go_num, Hnx.out, Hw.out _⟩
          case measure => simp [intOf]; omega
        · have hb2 : (f k != g k) = true := by simpa using he
          have hr := Hno.out k hlt he
          subst hr
          go_wp2_with fail
          go_quiet (fail)
          go_wp2_with fail
          go_ret
          exact ⟨rfl, _, Hw.out _⟩
      · have hkn : k = n := by omega
        subst hkn
        have hlt' : ¬ (k : Int) < (k : Int) := by omega
        have hr := Hy.out Hall.out
        subst hr
        go_wp2_with fail
        go_ret
        exact ⟨rfl, _, Hw0.out⟩
  · have hr : smJ n m f g = false := by unfold smJ; rw [decide_eq_false hnm]; rfl
    have hb : ((n : Int) != (m : Int)) = true := by
      rw [bne_iff_ne]; omega
    rw [hr]
    go_enter Tryd.func88, Tryd.ntmps88
    go_wp2_with fail
    go_ret
    exact ⟨rfl, 0, rfl⟩

/-! the same for lists -/
theorem intV_tab (l : List Int) : intV l = tab l.length (fun i => l.getD i 0) := by
  refine List.ext_getElem (by simp [intV, tab]) fun i h1 h2 => ?_
  simp only [intV, tab, List.getElem_map, List.getElem_range]
  rw [getD_getI (by simpa [intV] using h1)]
theorem smJ_list (l m : List Int) : smJ l.length m.length (fun i => l.getD i 0) (fun i => m.getD i 0) = decide (l = m) := by
  by_cases h : l = m
  · subst h
    rw [smJ_yes (fun _ _ => rfl), decide_eq_true rfl]
  · rw [decide_eq_false h]
    by_cases hl : l.length = m.length
    · rw [← hl]
      cases hs : smJ l.length l.length (fun i => l.getD i 0) (fun i => m.getD i 0) with
      | false => rfl
      | true =>
        unfold smJ at hs
        rw [decide_eq_true rfl, Bool.true_and, List.all_eq_true] at hs
        refine absurd (List.ext_getElem hl fun i h1 h2 => ?_) h
        have := hs i (List.mem_range.2 h1)
        dsimp only at this
        rw [getD_getI h1, getD_getI h2] at this
        simpa using this
    · exact smJ_ne hl
theorem sameNumL_any (B1 B2 : Nat) (v1 v2 : Value) (l m : List Int) (w : World) (h1 : Rd w B1 v1 l.length 1 (intV l)) (h2 : Rd w B2 v2 m.length 1 (intV m)) (hn : l.length ≤ 1048576) :
    Calls Tryd.prog 89 #[v1, v2] w fun e w' => e = .returned (.bool (decide (l = m))) ∧ ∃ k, w' = w.drewN k := by
  rw [intV_tab] at h1 h2
  rw [← smJ_list]
  exact sameNumJ_any B1 B2 v1 v2 _ _ _ _ w h1 h2 hn
theorem l00SameL_any (B1 B2 : Nat) (v1 v2 : Value) (l m : List Int) (w : World) (h1 : Rd w B1 v1 l.length 1 (intV l)) (h2 : Rd w B2 v2 m.length 1 (intV m)) (hn : l.length ≤ 1048576) :
    Calls Tryd.prog 88 #[v1, v2] w fun e w' => e = .returned (.bool (decide (l = m))) ∧ ∃ k, w' = w.drewN k := by
  rw [intV_tab] at h1 h2
  rw [← smJ_list]
  exact l00SameJ_any B1 B2 v1 v2 _ _ _ _ w h1 h2 hn
end Go.Proofs.YtepgfcjfdnakbaaDoor
/- Jobs, part 2: l00Rises, l22Ok of the reference (gen_jb2.py). -/
namespace Go.Proofs.YtepgfcjfdnakbaaDoor
open Go.RowKit Go.Joins

theorem risB_bad1 {l : List Int} {k i : Nat} (h : inB (l.getD i 0) 0 ((k : Int) - 1) = false) : risB l k i = false := by unfold risB; rw [h]; rfl
theorem risB_zero {l : List Int} {k : Nat} (h : inB (l.getD 0 0) 0 ((k : Int) - 1) = true) : risB l k 0 = true := by unfold risB; rw [h]; rfl
theorem risB_bad2 {l : List Int} {k i : Nat} (h0 : 0 < i) (h : ¬ l.getD (i - 1) 0 < l.getD i 0) : risB l k i = false := by unfold risB; rw [decide_eq_false h, decide_eq_false (by omega)]; simp
theorem risB_yes {l : List Int} {k i : Nat} (h1 : inB (l.getD i 0) 0 ((k : Int) - 1) = true) (h : l.getD (i - 1) 0 < l.getD i 0) : risB l k i = true := by unfold risB; rw [h1, decide_eq_true h]; simp
set_option maxRecDepth 100000 in
set_option maxHeartbeats 1600000 in
theorem Rises_any (B k n : Nat) (v : Value) (l : List Int) (w : World) (h : Rd w B v n 1 (intV l)) (hn : l.length = n) (hl : n ≤ 1048576) :
    Calls Tryd.prog 99 #[v, .int .i64 0, .int .i64 ((k : Int) - 1)] w fun e w' => e = .returned (.bool (needB l k)) ∧ ∃ q, w' = w.drewN q := by
  have H := Lib.hid h
  obtain ⟨A, c, rfl⟩ := rd_sl h
  have Hn := Lib.hid hn
  clear h hn
  go_enter Tryd.func99, Tryd.ntmps99
  go_wp2_with fail
  go_loopw [7] (fun x wr => ∃ (i q : Nat), i ≤ n ∧ x = .int .i64 (i : Int) ∧ allN i (risB l k) = true ∧ wr = w.drewN q) (fun x _ => n - (intOf x).toNat)
  case atStart => exact ⟨0, 0, Nat.zero_le _, rfl, rfl, rfl⟩
  case round =>
    obtain ⟨i, q, hi, rfl, hall, hwr⟩ := hrel
    have Hall := Lib.hid hall
    have Hwr := Lib.hid hwr
    have HL := Lib.hid (show Rd wr B (.slice A n c) n 1 (intV l) by rw [hwr]; exact H.out)
    clear hall hwr
    obtain ⟨wq, rfl⟩ : ∃ z, z = wr := ⟨_, rfl⟩
    by_cases hlt : i < n
    · have hlt' : (i : Int) < (n : Int) := by omega
      have hil : i < l.length := by rw [Hn.out]; exact hlt
      obtain ⟨b, off, hA, _, hcc⟩ := rdI_at HL.out Hn.out (by omega)
      subst hA
      have q1 := hcc i hil
      have hg := getD_getI hil
      have Hbad := Lib.hid (fun (hb : risB l k i = false) => (show needB l k = false from allN_bad i hil hb))
      have Hok := Lib.hid (fun (hb : risB l k i = true) => allN_step Hall.out hb)
      have HX := Lib.hid (fun wx => l00In_any l[i] 0 ((k : Int) - 1) wx)
      have Hb1 := Lib.hid (@risB_bad1 l k i)
      have Hb2 := Lib.hid (@risB_bad2 l k i)
      have Hy := Lib.hid (@risB_yes l k i)
      rw [hg] at Hb1 Hb2 Hy
      cases h1 : inB l[i] 0 ((k : Int) - 1) with
      | false =>
        have Hr := Lib.hid (Hbad.out (Hb1.out h1))
        rw [h1] at HX
        clear h1 hcc hg
        generalize l[i] = x at *
        go_wp2_with fail
        go_quiet ((go_at_call 84; exact Calls.quiet_of_same (flipQ (HX.out _))))
        go_wp2_with fail
        go_ret
        exact ⟨ret_bool Hr.out.symm, q + nq, by rw [Hwr.out]; exact World.drewN_drewN _ _ _⟩
      | true =>
        rw [h1] at HX
        by_cases h0 : i = 0
        · have hst := Hok.out (by subst h0; exact risB_zero (by rw [hg]; exact h1))
          have Hst := Lib.hid hst
          have hi0 : decide ((0 : Int) < (i : Int)) = false := by rw [decide_eq_false_iff_not]; omega
          have hi1 : decide (0 < i) = false := by rw [decide_eq_false_iff_not]; omega
          clear h1 hcc hg hst h0
          generalize l[i] = x at *
          go_wp2_with fail
          go_quiet ((go_at_call 84; exact Calls.quiet_of_same (flipQ (HX.out _))))
          go_wp2_with fail
          go_roundw
          case rel => exact ⟨i + 1, q + nq, by omega, by go_num, Hst.out, by rw [Hwr.out]; exact World.drewN_drewN _ _ _⟩
          case measure => first | (simp [intOf]; done) | (simp [intOf]; omega)
        · obtain ⟨j, rfl⟩ : ∃ j, i = j + 1 := ⟨i - 1, by omega⟩
          have q2 := hcc j (by omega)
          have hg2 := getD_getI (show j < l.length by omega)
          rw [show j + 1 - 1 = j by omega, hg2] at Hb2 Hy
          have hw1 : IntKind.i64.wrap (j : Int) = (j : Int) := IntWalk.i64_in _ (by omega)
          have hw2 : IntKind.i64.wrap ((j : Int) + 1) = (j : Int) + 1 := IntWalk.i64_in _ (by omega)
          have hw3 : IntKind.i64.wrap ((j : Int) + 1 + 1) = (j : Int) + 1 + 1 := IntWalk.i64_in _ (by omega)
          have hjl : (j : Int) < (n : Int) := by omega
          have hjl2 : (j : Int) + 1 < (n : Int) := by omega
          have hjl3 : (0 : Int) < (j : Int) + 1 := by omega
          by_cases hc : l[j] < l[j + 1]
          · have Hst := Lib.hid (Hok.out (Hy.out h1 hc))
            have hc' : decide (l[j + 1] ≤ l[j]) = false := by rw [decide_eq_false_iff_not]; omega
            clear h1 hcc hg hg2 h0 Hy Hb2 hc Hb1 Hbad Hok
            generalize l[j + 1] = x at *
            generalize l[j] = y at *
            go_wp2_with fail
            go_quiet ((go_at_call 84; exact Calls.quiet_of_same (flipQ (HX.out _))))
            go_wp2_with fail
            go_roundw
            case rel => exact ⟨j + 1 + 1, q + nq, by omega, by go_num, Hst.out, by rw [Hwr.out]; exact World.drewN_drewN _ _ _⟩
            case measure => first | (simp [intOf]; done) | (simp [intOf]; omega)
          · have Hr := Lib.hid (Hbad.out (Hb2.out (by omega) hc))
            have hc' : l[j + 1] ≤ l[j] := by omega
            clear h1 hcc hg hg2 h0 Hy Hb2 hc Hb1 Hbad Hok
            generalize l[j + 1] = x at *
            generalize l[j] = y at *
            go_wp2_with fail
            go_quiet ((go_at_call 84; exact Calls.quiet_of_same (flipQ (HX.out _))))
            go_wp2_with fail
            go_ret
            exact ⟨ret_bool Hr.out.symm, q + nq, by rw [Hwr.out]; exact World.drewN_drewN _ _ _⟩
    · obtain rfl : i = n := by omega
      have hlt' : ¬ ((i : Int) < (i : Int)) := by omega
      have Hr := Lib.hid (show needB l k = true by unfold needB; rw [Hn.out]; exact Hall.out)
      go_wp2_with fail
      go_ret
      exact ⟨ret_bool Hr.out.symm, q, Hwr.out⟩
end Go.Proofs.YtepgfcjfdnakbaaDoor
/- Jobs, part 3: l22Ok (gen_jb3.py). -/
namespace Go.Proofs.YtepgfcjfdnakbaaDoor
open Go.RowKit Go.Joins

/-- names that are not too long, needs that are not too many -/
def szJ (xs : List Jb) : Prop := ∀ k, k < xs.length → (jg xs k).nm.size ≤ 1048576 ∧ (jg xs k).needs.length ≤ 1048576
theorem okJ_jb {xs : List Jb} {k : Nat} (hk : k < xs.length) (h : jbB xs k = false) : okJ xs = false := by
  unfold okJ
  rw [allN_bad k hk h, Bool.false_and, Bool.and_false]
theorem jb_nm {xs : List Jb} {k : Nat} (h : isNm (jg xs k).nm.data.toList = false) : jbB xs k = false := by unfold jbB; rw [h]; rfl
theorem jb_new {xs : List Jb} {k : Nat} (h : newJ xs k = false) : jbB xs k = false := by unfold jbB; rw [h]; simp
theorem jb_days {xs : List Jb} {k : Nat} (h : inB (jg xs k).days 1 60 = false) : jbB xs k = false := by unfold jbB; rw [h]; simp
theorem jb_cost {xs : List Jb} {k : Nat} (h : inB (jg xs k).cost 0 1000000 = false) : jbB xs k = false := by unfold jbB; rw [h]; simp
theorem jb_need {xs : List Jb} {k : Nat} (h : needB (jg xs k).needs k = false) : jbB xs k = false := by unfold jbB; rw [h]; simp
theorem jb_yes {xs : List Jb} {k : Nat} (h1 : isNm (jg xs k).nm.data.toList = true) (h2 : newJ xs k = true) (h3 : inB (jg xs k).days 1 60 = true) (h4 : inB (jg xs k).cost 0 1000000 = true) (h5 : needB (jg xs k).needs k = true) : jbB xs k = true := by unfold jbB; rw [h1, h2, h3, h4, h5]; rfl
theorem allN_of {n : Nat} {f : Nat → Bool} (h : ∀ i, i < n → f i = true) : allN n f = true := List.all_eq_true.2 fun i hi => h i (List.mem_range.1 hi)
theorem sumD_all {xs : List Jb} : ∀ k, allN k (jbB xs) = true → (k : Int) ≤ sumD xs k ∧ sumD xs k ≤ 60 * (k : Int)
  | 0, _ => by unfold sumD; omega
  | k + 1, h => by
    have h1 := sumD_all k (allN_of fun i hi => allN_get h (by omega))
    have h2 := (jbB_ok (allN_get h (Nat.lt_succ_self k))).2.2.1
    show ((k + 1 : Nat) : Int) ≤ sumD xs k + (jg xs k).days ∧ sumD xs k + (jg xs k).days ≤ 60 * ((k + 1 : Nat) : Int)
    omega
set_option maxRecDepth 100000 in
set_option maxHeartbeats 6400000 in
theorem OkJS_any (B : Nat) (v : Value) (xs : List Jb) (w : World) (h : RdJ w B v xs) (hB : B ≤ w.heap.size) (hn : xs.length ≤ 100000) (hz : szJ xs) :
    Calls Tryd.prog 79 #[v] w fun e w' => e = .returned (.bool (okJ xs)) ∧ Below w.heap.size w w' := by
  have H := Lib.hid h
  obtain ⟨A, c, rfl⟩ := h.slice
  have HZ := Lib.hid hz
  clear h hz
  go_enter Tryd.func79, Tryd.ntmps79
  go_wp2_with fail
  go_loopw [3, 4] (fun s i wr => ∃ k : Nat, k ≤ xs.length ∧ i = .int .i64 (k : Int) ∧ s = .int .i64 (sumD xs k) ∧ allN k (jbB xs) = true ∧ Below w.heap.size w wr) (fun _ i _ => xs.length - (intOf i).toNat)
  case atStart => exact ⟨0, Nat.zero_le _, rfl, rfl, rfl, Below.refl _ _⟩
  case round =>
    obtain ⟨k, hk, rfl, rfl, hall, hbl⟩ := hrel
    have Hall := Lib.hid hall
    have Hbl := Lib.hid hbl
    have hsb := sumD_all k hall
    clear hall hbl
    by_cases hlt : k < xs.length
    · obtain ⟨gb, ob, A', c', hA, hat⟩ := (H.out.below (Hbl.out.mono hB)).at k hlt
      subst hA
      have hlt' : (k : Int) < (xs.length : Int) := by omega
      obtain ⟨hsz, hsn⟩ := HZ.out k hlt
      have HE1 := Lib.hid (fun h => okJ_jb hlt (jb_nm h))
      have HE2 := Lib.hid (fun h => okJ_jb hlt (jb_new h))
      have HE3 := Lib.hid (fun h => okJ_jb hlt (jb_days h))
      have HE4 := Lib.hid (fun h => okJ_jb hlt (jb_cost h))
      have HE5 := Lib.hid (fun h => okJ_jb hlt (jb_need h))
      have HYs := Lib.hid (fun h1 h2 h3 h4 h5 => allN_step Hall.out (jb_yes (xs := xs) (k := k) h1 h2 h3 h4 h5))
      have HR := Lib.hid (fun wx hx => Rises_any B k (jg xs k).needs.length (.slice A' (jg xs k).needs.length c') (jg xs k).needs wx hx rfl hsn)
      have HRd := Lib.hid hat.needs
      have Hsu := Lib.hid (show sumD xs (k + 1) = sumD xs k + (jg xs k).days from rfl)
      obtain ⟨_, p0, p1, p2, p3, _⟩ := hat
      obtain ⟨nm, hnm⟩ : ∃ z, (jg xs k).nm = z := ⟨_, rfl⟩
      rw [hnm] at p0 hsz HE1 HYs
      have Hnm := Lib.hid hnm
      clear hnm
      generalize (jg xs k).days = dd at *
      generalize (jg xs k).cost = cc at *
      generalize (jg xs k).needs = nd at *
      have HN := Lib.hid (fun wx => IsNameS_any nm wx hsz)
      have HX1 := Lib.hid (fun wx => l00In_any dd 1 60 wx)
      have HX2 := Lib.hid (fun wx => l00In_any cc 0 1000000 wx)
      have hkw : IntKind.i64.wrap ((k : Int) - 1) = (k : Int) - 1 := IntWalk.i64_in _ (by omega)
      cases h1 : isNm nm.data.toList with
      | false =>
        have Hr := Lib.hid (HE1.out h1)
        rw [h1] at HN
        clear h1
        go_wp2_with fail
        refine (HN.out _).mono ?_; rintro e w1 ⟨rfl, rfl⟩
        go_wp2_with fail
        go_ret
        exact ⟨ret_bool Hr.out.symm, Hbl.out⟩
      | true =>
        rw [h1] at HN
        cases h3 : inB dd 1 60 with
        | false =>
          have Hr := Lib.hid (HE3.out h3)
          rw [h3] at HX1
          clear h3
          go_wp2_with fail
          refine (HN.out _).mono ?_; rintro e w1 ⟨rfl, rfl⟩
          go_wp2_with fail
          refine (HX1.out _).mono ?_; rintro e w1 ⟨rfl, rfl⟩
          go_wp2_with fail
          go_ret
          exact ⟨ret_bool Hr.out.symm, Hbl.out⟩
        | true =>
          rw [h3] at HX1
          cases h4 : inB cc 0 1000000 with
          | false =>
            have Hr := Lib.hid (HE4.out h4)
            rw [h4] at HX2
            clear h4
            go_wp2_with fail
            refine (HN.out _).mono ?_; rintro e w1 ⟨rfl, rfl⟩
            go_wp2_with fail
            refine (HX1.out _).mono ?_; rintro e w1 ⟨rfl, rfl⟩
            go_wp2_with fail
            refine (HX2.out _).mono ?_; rintro e w1 ⟨rfl, rfl⟩
            go_wp2_with fail
            go_ret
            exact ⟨ret_bool Hr.out.symm, Hbl.out⟩
          | true =>
            rw [h4] at HX2
            have HRx := Lib.hid (HR.out wr HRd.out)
            cases h5 : needB nd k with
            | false =>
              have Hr := Lib.hid (HE5.out h5)
              rw [h5] at HRx
              clear h5 HR
              go_wp2_with fail
              refine (HN.out _).mono ?_; rintro e w1 ⟨rfl, rfl⟩
              go_wp2_with fail
              refine (HX1.out _).mono ?_; rintro e w1 ⟨rfl, rfl⟩
              go_wp2_with fail
              refine (HX2.out _).mono ?_; rintro e w1 ⟨rfl, rfl⟩
              go_wp2_with fail
              refine HRx.out.mono ?_; rintro e wq ⟨rfl, d, hwq⟩
              have Hz := Lib.hid (show Below w.heap.size w wq by rw [hwq]; exact below_drewN Hbl.out d)
              clear hwq
              go_wp2_with fail
              go_ret
              exact ⟨ret_bool Hr.out.symm, Hz.out⟩
            | true =>
              rw [h5] at HRx
              have hdb := inB_iff.1 h3
              have hws : IntKind.i64.wrap (sumD xs k + dd) = sumD xs k + dd := IntWalk.i64_in _ (by omega)
              have HYn := Lib.hid (fun h2 => HYs.out h1 h2 h3 h4 h5)
              clear HR HYs
              go_wp2_with fail
              refine (HN.out _).mono ?_; rintro e w1 ⟨rfl, rfl⟩
              go_wp2_with fail
              refine (HX1.out _).mono ?_; rintro e w1 ⟨rfl, rfl⟩
              go_wp2_with fail
              refine (HX2.out _).mono ?_; rintro e w1 ⟨rfl, rfl⟩
              go_wp2_with fail
              refine HRx.out.mono ?_; rintro e wq ⟨rfl, d, hwq⟩
              have hbq : Below w.heap.size w wq := by rw [hwq]; exact below_drewN Hbl.out d
              have Hbq := Lib.hid hbq
              have r1 : wq.cell? ⟨gb, ob + k * 4 + 1, none⟩ = some (.int .i64 dd) := by rw [hwq]; exact p1
              have R0 := Lib.hid (show wq.cell? ⟨gb, ob + k * 4, none⟩ = some (.string nm) by rw [hwq]; exact p0)
              clear hwq hbq p0 p1 p2 p3 HN HX1 HX2 HRx
              go_wp2_with fail
              clear r1
              go_loopw [6] (fun i wr => ∃ (i' d : Nat), i' ≤ k ∧ i = .int .i64 (i' : Int) ∧ allN i' (fun i => !(decide ((jg xs i).nm = (jg xs k).nm))) = true ∧ wr = wq.drewN d) (fun i _ => k - (intOf i).toNat)
              case atStart => exact ⟨0, 0, Nat.zero_le _, rfl, rfl, rfl⟩
              case round =>
                obtain ⟨i', d, hi, rfl, hai, hwx⟩ := hrel
                have Hai := Lib.hid hai
                have Hwx := Lib.hid hwx
                have Hbx := Lib.hid (show Below w.heap.size w wr by rw [hwx]; exact below_drewN Hbq.out d)
                have y1 : wr.cell? ⟨gb, ob + k * 4, none⟩ = some (.string nm) := by rw [hwx]; exact R0.out
                clear hai hwx
                by_cases hlti : i' < k
                · have hlti' : (i' : Int) < (k : Int) := by omega
                  obtain ⟨gb', ob', A2, c2, hA', hat'⟩ := (H.out.below (Hbx.out.mono hB)).at i' (by omega)
                  obtain ⟨rfl, rfl⟩ : gb = gb' ∧ ob = ob' := by simpa using hA'
                  have y0 := hat'.c0
                  have hq := ba_beqP (x := (jg xs i').nm) (y := (jg xs k).nm)
                  have HBd := Lib.hid (fun h => HE2.out (show newJ xs k = false from allN_bad (f := fun i => !(decide ((jg xs i).nm = (jg xs k).nm))) i' hlti h))
                  have HGd := Lib.hid (fun h => allN_step (f := fun i => !(decide ((jg xs i).nm = (jg xs k).nm))) Hai.out h)
                  have hil : (i' : Int) < (xs.length : Int) := by omega
                  rw [Hnm.out] at hq HBd HGd
                  obtain ⟨wz, hwz⟩ : ∃ z, z = wr := ⟨_, rfl⟩
                  rw [← hwz] at y0 y1 Hwx Hbx ⊢
                  clear hwz hat'
                  generalize (jg xs i').nm = ni at *
                  cases hqe : decide (ni = nm) with
                  | true =>
                    have Hr := Lib.hid (HBd.out (by rw [hqe]; rfl))
                    rw [hqe] at hq
                    clear hqe
                    go_wp2_with fail
                    go_quiet (fail)
                    have Hbz := Lib.hid (below_drewN Hbx.out nq)
                    go_wp2_with fail
                    go_ret
                    exact ⟨ret_bool Hr.out.symm, Hbz.out⟩
                  | false =>
                    have Hr := Lib.hid (HGd.out (by rw [hqe]; rfl))
                    rw [hqe] at hq
                    clear hqe
                    go_wp2_with fail
                    go_quiet (fail)
                    go_wp2_with fail
                    go_roundw
                    case rel => exact ⟨i' + 1, d + nq, by omega, by go_num, by rw [Hnm.out]; exact Hr.out, by rw [Hwx.out]; first | rfl | exact World.drewN_drewN _ _ _⟩
                    case measure => first | (simp [intOf]; done) | (simp [intOf]; omega)
                · obtain rfl : k = i' := by omega
                  have hlti' : ¬ ((k : Int) < (k : Int)) := by omega
                  have Hyy := Lib.hid (HYn.out Hai.out)
                  go_wp2_with fail
                  go_roundw
                  case rel => exact ⟨k + 1, by omega, by go_num, by rw [Hsu.out], Hyy.out, Hbx.out⟩
                  case measure => first | (simp [intOf]; done) | (simp [intOf]; omega)
    · obtain rfl : k = xs.length := by omega
      have hlt' : ¬ ((xs.length : Int) < (xs.length : Int)) := by omega
      have Hr := Lib.hid (show okJ xs = (decide (xs.length ≤ 30) && decide (sumD xs xs.length ≤ 400)) from by unfold okJ; rw [Hall.out, Bool.true_and])
      by_cases h30 : xs.length ≤ 30
      · have h30' : (xs.length : Int) ≤ 30 := by omega
        by_cases hs4 : sumD xs xs.length ≤ 400
        · rw [decide_eq_true h30, decide_eq_true hs4] at Hr
          generalize sumD xs xs.length = sd at *
          go_wp2_with fail
          go_ret
          exact ⟨ret_bool Hr.out.symm, Hbl.out⟩
        · rw [decide_eq_true h30, decide_eq_false hs4] at Hr
          have hs4' : ¬ (sumD xs xs.length ≤ 400) := hs4
          generalize sumD xs xs.length = sd at *
          go_wp2_with fail
          go_ret
          exact ⟨ret_bool (by rw [Hr.out]; first | rfl | (simp; omega)), Hbl.out⟩
      · have h30' : ¬ ((xs.length : Int) ≤ 30) := by omega
        rw [decide_eq_false h30] at Hr
        generalize sumD xs xs.length = sd at *
        go_wp2_with fail
        go_ret
        exact ⟨ret_bool (by rw [Hr.out]; first | rfl | (simp; omega)), Hbl.out⟩
end Go.Proofs.YtepgfcjfdnakbaaDoor
/- Jobs, part 4: ValidJobs of the program (gen_jb4.py). -/
namespace Go.Proofs.YtepgfcjfdnakbaaDoor
open Go.RowKit Go.Joins

def nmsJ (xs : List Jb) (k : Nat) : List ByteArray := (List.range k).map fun i => (jg xs i).nm
theorem nmsJ_succ (xs : List Jb) (k : Nat) : nmsJ xs (k + 1) = nmsJ xs k ++ [(jg xs k).nm] := by simp [nmsJ, List.range_succ]
theorem nmsJ_len (xs : List Jb) (k : Nat) : (nmsJ xs k).length = k := by simp [nmsJ]
theorem nmsJ_has (xs : List Jb) (k : Nat) : hasNm (nmsJ xs k) (jg xs k).nm = !(newJ xs k) := by
  unfold hasNm nmsJ newJ allN
  rw [List.any_map, List.all_eq_not_any_not, Bool.not_not]
  congr 1
  funext i
  simp
theorem okJ_len {xs : List Jb} (h : ¬ xs.length ≤ 30) : okJ xs = false := by unfold okJ; rw [decide_eq_false h]; rfl
theorem okJ_end {xs : List Jb} (h : xs.length ≤ 30) (h1 : allN xs.length (jbB xs) = true) : okJ xs = decide (sumD xs xs.length ≤ 400) := by unfold okJ; rw [decide_eq_true h, h1, Bool.true_and, Bool.true_and]
set_option maxRecDepth 100000 in
set_option maxHeartbeats 6400000 in
theorem ValidJI_any (B : Nat) (v : Value) (xs : List Jb) (w : World) (h : RdJ w B v xs) (hB : B ≤ w.heap.size) (hn : xs.length ≤ 100000) (hz : szJ xs) :
    Calls Tryd.prog 49 #[v] w fun e w' => e = .returned (.bool (okJ xs)) ∧ Below w.heap.size w w' := by
  have H := Lib.hid h
  obtain ⟨A, c, rfl⟩ := h.slice
  have HZ := Lib.hid hz
  have hmm := @run_makeMap Tryd.prog
  have HbM := Lib.hid ((Below.refl w.heap.size w).alloc (Nat.le_refl _) (.map #[] 0))
  have HmM := Lib.hid (NmMap.made w)
  clear h hz
  by_cases h30 : xs.length ≤ 30
  rotate_left
  · have Hr := Lib.hid (okJ_len h30)
    have h30' : (30 : Int) < (xs.length : Int) := by omega
    clear h30
    go_enter Tryd.func49, Tryd.ntmps49
    go_wp2_with fail
    go_ret
    exact ⟨ret_bool Hr.out.symm, Below.refl _ _⟩
  · have h30' : ¬ ((30 : Int) < (xs.length : Int)) := by omega
    have Hend := Lib.hid (fun h => okJ_end h30 h)
    go_enter Tryd.func49, Tryd.ntmps49
    go_wp2_with fail
    go_loopw [4, 15] (fun s i wr => ∃ k : Nat, k ≤ xs.length ∧ i = .int .i64 (k : Int) ∧ s = .int .i64 (sumD xs k) ∧ allN k (jbB xs) = true ∧ NmMap wr w.heap.size (nmsJ xs k) ∧ Below w.heap.size w wr) (fun _ i _ => xs.length - (intOf i).toNat)
    case atStart => exact ⟨0, Nat.zero_le _, rfl, rfl, rfl, HmM.out, HbM.out⟩
    case round =>
      obtain ⟨k, hk, rfl, rfl, hall, hm, hbl⟩ := hrel
      have Hall := Lib.hid hall
      have Hm := Lib.hid hm
      have Hbl := Lib.hid hbl
      have hsb := sumD_all k hall
      clear hall hm hbl HmM HbM
      by_cases hlt : k < xs.length
      · obtain ⟨gb, ob, A', c', hA, hat⟩ := (H.out.below (Hbl.out.mono hB)).at k hlt
        subst hA
        have hlt' : (k : Int) < (xs.length : Int) := by omega
        obtain ⟨hsz, hsn⟩ := HZ.out k hlt
        have HRd := Lib.hid hat.needs
        obtain ⟨_, p0, p1, p2, p3, _⟩ := hat
        have HE1 := Lib.hid (fun h => okJ_jb hlt (jb_nm h))
        have HE2 := Lib.hid (fun h => okJ_jb hlt (jb_new h))
        have HE3 := Lib.hid (fun h => okJ_jb hlt (jb_days h))
        have HE4 := Lib.hid (fun h => okJ_jb hlt (jb_cost h))
        have HE5 := Lib.hid (fun h => okJ_jb hlt (jb_need h))
        have HY := Lib.hid (fun h1 h2 h3 h4 h5 => allN_step Hall.out (jb_yes (xs := xs) (k := k) h1 h2 h3 h4 h5))
        have Hhas := Lib.hid (nmsJ_has xs k)
        have Hsu := Lib.hid (nmsJ_succ xs k)
        have Hsd := Lib.hid (show sumD xs (k + 1) = sumD xs k + (jg xs k).days from rfl)
        generalize newJ xs k = nb at *
        generalize (jg xs k).nm = nm at *
        generalize (jg xs k).days = dd at *
        generalize (jg xs k).cost = cc at *
        generalize (jg xs k).needs = nd at *
        have hba := (Below.refl wr.heap.size wr).alloc (Nat.le_refl _) (.cells #[.string nm, .int .i64 dd, .int .i64 cc, .slice A' nd.length c'] 62)
        have Hba := Lib.hid (Hbl.out.trans (hba.mono Hbl.out.size))
        have HCa := Lib.hid (heap_alloc_new wr (.cells #[.string nm, .int .i64 dd, .int .i64 cc, .slice A' nd.length c'] 62))
        have HMa := Lib.hid (Hm.out.below hba)
        have HRa := Lib.hid (HRd.out.below (hba.mono (Nat.le_trans hB Hbl.out.size)))
        have hgaw : w.heap.size < wr.heap.size := Hm.out.lt
        have HN := Lib.hid (fun wx => IsNameI_any nm wx hsz)
        have HX1 := Lib.hid (fun wx => between_any dd 1 60 wx)
        have HX2 := Lib.hid (fun wx => between_any cc 0 1000000 wx)
        have hkw : IntKind.i64.wrap ((k : Int) - 1) = (k : Int) - 1 := IntWalk.i64_in _ (by omega)
        clear hba Hm HRd
        go_upto_region 7 with (fail)
        generalize wr.alloc (.cells #[.string nm, .int .i64 dd, .int .i64 cc, .slice A' nd.length c'] 62) = wa at *
        generalize wr.heap.size = ga at *
        clear p0 p1 p2 p3
        obtain ⟨y0, y1, y2, y3⟩ := cells4 HCa.out
        have hlook := HMa.out.look nm (by simp [maxLen]; omega)
        rw [Hhas.out] at hlook
        cases h1 : isNm nm.data.toList with
        | false =>
          have Hr := Lib.hid (HE1.out h1)
          rw [h1] at HN
          clear h1
          go_wp2_with fail
          refine (HN.out _).mono ?_; rintro e w1 ⟨rfl, rfl⟩
          go_wp2_with fail
          go_ret
          exact ⟨ret_bool Hr.out.symm, Hba.out⟩
        | true =>
          rw [h1] at HN
          cases nb with
          | false =>
            have Hr := Lib.hid (HE2.out rfl)
            go_wp2_with fail
            refine (HN.out _).mono ?_; rintro e w1 ⟨rfl, rfl⟩
            go_wp2_with fail
            go_ret
            exact ⟨ret_bool Hr.out.symm, Hba.out⟩
          | true =>
            cases h3 : inB dd 1 60 with
            | false =>
              have Hr := Lib.hid (HE3.out h3)
              rw [h3] at HX1
              clear h3
              go_wp2_with fail
              refine (HN.out _).mono ?_; rintro e w1 ⟨rfl, rfl⟩
              go_wp2_with fail
              refine (HX1.out _).mono ?_; rintro e w1 ⟨rfl, rfl⟩
              go_wp2_with fail
              go_ret
              exact ⟨ret_bool Hr.out.symm, Hba.out⟩
            | true =>
              rw [h3] at HX1
              cases h4 : inB cc 0 1000000 with
              | false =>
                have Hr := Lib.hid (HE4.out h4)
                rw [h4] at HX2
                clear h4
                go_wp2_with fail
                refine (HN.out _).mono ?_; rintro e w1 ⟨rfl, rfl⟩
                go_wp2_with fail
                refine (HX1.out _).mono ?_; rintro e w1 ⟨rfl, rfl⟩
                go_wp2_with fail
                refine (HX2.out _).mono ?_; rintro e w1 ⟨rfl, rfl⟩
                go_wp2_with fail
                go_ret
                exact ⟨ret_bool Hr.out.symm, Hba.out⟩
              | true =>
                rw [h4] at HX2
                obtain ⟨w1, hupd, hm1, hgrow1⟩ := HMa.out.upd nm (by simp [maxLen]; omega) (by rw [nmsJ_len]; simp [maxLen]; omega)
                have Hm1 := Lib.hid hm1
                have hres := (hgrow1.block ga ((Array.getElem?_eq_some_iff.1 HCa.out).1) (fun e => by injection e with e; omega)).trans HCa.out
                obtain ⟨x0, x1, x2, x3⟩ := cells4 hres
                have Hb1 := Lib.hid (Hba.out.grown hgrow1 Hba.out.size (fun j hj => by cases hj; exact Nat.le_refl _))
                have hb1 := Below.grown (Below.refl B wa) hgrow1 (Nat.le_trans hB Hba.out.size) (fun j hj => by cases hj; exact hB)
                have HR1 := Lib.hid (HRa.out.below hb1)
                have hdb := inB_iff.1 h3
                have hws : IntKind.i64.wrap (sumD xs k + dd) = sumD xs k + dd := IntWalk.i64_in _ (by omega)
                have HYn := Lib.hid (fun h5 => HY.out h1 rfl h3 h4 h5)
                obtain ⟨nl, hnl⟩ : ∃ z, nd.length = z := ⟨_, rfl⟩
                have Hnl := Lib.hid hnl
                rw [hnl] at y3 x3 HR1 hsn
                clear hm1 hgrow1 hres hb1 hnl h1 h3 h4 HRa HCa HY HE1 HE2 HE3 HE4
                go_wp2_with fail
                refine (HN.out _).mono ?_; rintro e w1 ⟨rfl, rfl⟩
                go_wp2_with fail
                refine (HX1.out _).mono ?_; rintro e w1 ⟨rfl, rfl⟩
                go_wp2_with fail
                refine (HX2.out _).mono ?_; rintro e w1 ⟨rfl, rfl⟩
                go_wp2_with fail
                clear HN HX1 HX2 hlook hupd
                go_loop [52] (fun i => ∃ i' : Nat, i' ≤ nl ∧ i = .int .i64 (i' : Int) ∧ allN i' (risB nd k) = true) (fun i => nl - (intOf i).toNat)
                case atStart => exact ⟨0, Nat.zero_le _, rfl, rfl⟩
                case round =>
                  obtain ⟨i, hi, rfl, hai⟩ := hrel
                  have Hai := Lib.hid hai
                  clear hai
                  by_cases hil : i < nl
                  · have hil' : (i : Int) < (nl : Int) := by omega
                    have hid : i < nd.length := by rw [Hnl.out]; exact hil
                    obtain ⟨b2, o2, hA2, _, hcc⟩ := rdI_at HR1.out Hnl.out (by omega)
                    subst hA2
                    have q1 := hcc i hid
                    have hg := getD_getI hid
                    have Hbad := Lib.hid (fun (hb : risB nd k i = false) => HE5.out (show needB nd k = false from allN_bad i hid hb))
                    have Hok := Lib.hid (fun (hb : risB nd k i = true) => allN_step Hai.out hb)
                    have HX := Lib.hid (fun wx => between_any nd[i] 0 ((k : Int) - 1) wx)
                    have Hb1' := Lib.hid (@risB_bad1 nd k i)
                    have Hb2' := Lib.hid (@risB_bad2 nd k i)
                    have Hy := Lib.hid (@risB_yes nd k i)
                    rw [hg] at Hb1' Hb2' Hy
                    cases h5 : inB nd[i] 0 ((k : Int) - 1) with
                    | false =>
                      have Hr := Lib.hid (Hbad.out (Hb1'.out h5))
                      rw [h5] at HX
                      clear h5 hcc hg
                      generalize nd[i] = x at *
                      go_wp2_with fail
                      refine (HX.out _).mono ?_; rintro e w1 ⟨rfl, rfl⟩
                      go_wp2_with fail
                      go_ret
                      exact ⟨ret_bool Hr.out.symm, Hb1.out⟩
                    | true =>
                      rw [h5] at HX
                      by_cases h0 : i = 0
                      · have Hst := Lib.hid (Hok.out (by subst h0; exact risB_zero (by rw [hg]; exact h5)))
                        have hi0 : ¬ ((0 : Int) < (i : Int)) := by omega
                        clear h5 hcc hg h0
                        generalize nd[i] = x at *
                        go_wp2_with fail
                        refine (HX.out _).mono ?_; rintro e w1 ⟨rfl, rfl⟩
                        go_wp2_with fail
                        go_round
                        case rel => exact ⟨i + 1, by omega, by go_num, Hst.out⟩
                        case measure => first | (simp [intOf]; done) | (simp [intOf]; omega)
                      · obtain ⟨j, rfl⟩ : ∃ j, i = j + 1 := ⟨i - 1, by omega⟩
                        have q2 := hcc j (by omega)
                        have hg2 := getD_getI (show j < nd.length by omega)
                        rw [show j + 1 - 1 = j by omega, hg2] at Hb2' Hy
                        have hwj : IntKind.i64.wrap (((j + 1 : Nat) : Int) - 1) = (j : Int) := (IntWalk.i64_in _ (by omega)).trans (by omega)
                        have hjl : (j : Int) < (nl : Int) := by omega
                        have hi0 : (0 : Int) < ((j + 1 : Nat) : Int) := by omega
                        by_cases hc : nd[j] < nd[j + 1]
                        · have Hst := Lib.hid (Hok.out (Hy.out h5 hc))
                          have hc' : ¬ (nd[j + 1] ≤ nd[j]) := by omega
                          clear h5 hcc hg hg2 h0 Hy Hb2' hc Hb1' Hbad Hok
                          generalize nd[j + 1] = x at *
                          generalize nd[j] = y at *
                          go_wp2_with fail
                          refine (HX.out _).mono ?_; rintro e w1 ⟨rfl, rfl⟩
                          go_wp2_with fail
                          go_round
                          case rel => exact ⟨j + 1 + 1, by omega, by go_num, Hst.out⟩
                          case measure => first | (simp [intOf]; done) | (simp [intOf]; omega)
                        · have Hr := Lib.hid (Hbad.out (Hb2'.out (by omega) hc))
                          have hc' : nd[j + 1] ≤ nd[j] := by omega
                          clear h5 hcc hg hg2 h0 Hy Hb2' hc Hb1' Hbad Hok
                          generalize nd[j + 1] = x at *
                          generalize nd[j] = y at *
                          go_wp2_with fail
                          refine (HX.out _).mono ?_; rintro e w1 ⟨rfl, rfl⟩
                          go_wp2_with fail
                          go_ret
                          exact ⟨ret_bool Hr.out.symm, Hb1.out⟩
                  · obtain rfl : i = nl := by omega
                    have hil' : ¬ ((i : Int) < (i : Int)) := by omega
                    have Hst := Lib.hid (HYn.out (show needB nd k = true by unfold needB; rw [Hnl.out]; exact Hai.out))
                    go_wp2_with fail
                    go_roundw
                    case rel => exact ⟨k + 1, by omega, by go_num, by rw [Hsd.out], Hst.out, by rw [Hsu.out]; exact Hm1.out, Hb1.out⟩
                    case measure => first | (simp [intOf]; done) | (simp [intOf]; omega)
      · obtain rfl : k = xs.length := by omega
        have hlt' : ¬ ((xs.length : Int) < (xs.length : Int)) := by omega
        have Hr := Lib.hid (Hend.out Hall.out)
        generalize sumD xs xs.length = sd at *
        go_wp2_with fail
        go_ret
        exact ⟨ret_bool (by rw [Hr.out]), Hbl.out⟩
end Go.Proofs.YtepgfcjfdnakbaaDoor
/- Jobs, part 5: the earliest days, in plain words. -/
namespace Go.Proofs.YtepgfcjfdnakbaaDoor
open Go.RowKit Go.Joins

theorem sumD_mono {xs : List Jb} (h : OkJ xs) {i : Nat} : ∀ {j}, i ≤ j → j ≤ xs.length → sumD xs i ≤ sumD xs j
  | 0, hi, _ => by obtain rfl : i = 0 := by omega
                   exact Int.le_refl _
  | j + 1, hi, hj => by
    by_cases e : i = j + 1
    · subst e; exact Int.le_refl _
    · have h1 := sumD_mono h (i := i) (j := j) (by omega) (by omega)
      have h2 := h.days j (by omega)
      show _ ≤ sumD xs j + (jg xs j).days
      omega
theorem sumD_lt {xs : List Jb} (h : OkJ xs) {n k : Nat} (hn : n < k) (hk : k ≤ xs.length) : sumD xs n + (jg xs n).days ≤ sumD xs k := sumD_mono h (i := n + 1) (j := k) hn hk
/-- the greatest end among the first i needs -/
def erP (xs : List Jb) (e : Nat → Int) (nd : List Int) : Nat → Int
  | 0 => 0
  | i + 1 => max (erP xs e nd i) (e (nd.getD i 0).toNat + (jg xs (nd.getD i 0).toNat).days)
def erl (xs : List Jb) : Nat → Int := tv 0 (fun e k => erP xs e (jg xs k).needs (jg xs k).needs.length)
def allD (xs : List Jb) : Nat → Int
  | 0 => 0
  | k + 1 => max (allD xs k) (erl xs k + (jg xs k).days)
theorem nd_at {xs : List Jb} (h : OkJ xs) {k i : Nat} (hk : k < xs.length) (hi : i < (jg xs k).needs.length) : ∃ p : Nat, p < k ∧ (jg xs k).needs.getD i 0 = (p : Int) ∧ (jg xs k).needs[i] = (p : Int) := by
  have := h.need k hk _ (List.getElem_mem hi)
  exact ⟨((jg xs k).needs[i]).toNat, by omega, by rw [getD_getI hi]; omega, by omega⟩
theorem erP_congr {xs : List Jb} {e e' : Nat → Int} {nd : List Int} : ∀ i, i ≤ nd.length → (∀ j, j < nd.length → e (nd.getD j 0).toNat = e' (nd.getD j 0).toNat) → erP xs e nd i = erP xs e' nd i
  | 0, _, _ => rfl
  | i + 1, hi, h => by
    show max (erP xs e nd i) _ = max (erP xs e' nd i) _
    rw [erP_congr i (by omega) h, h i (by omega)]
theorem erl_eq {xs : List Jb} (h : OkJ xs) {k : Nat} (hk : k < xs.length) : erl xs k = erP xs (erl xs) (jg xs k).needs (jg xs k).needs.length := by
  unfold erl
  rw [tv_eq]
  refine erP_congr _ (Nat.le_refl _) fun j hj => ?_
  obtain ⟨p, hp, he, _⟩ := nd_at h hk hj
  show (if ((jg xs k).needs.getD j 0).toNat < k then _ else _) = _
  rw [he, if_pos (by omega)]
theorem erP_bd {xs : List Jb} {e : Nat → Int} {nd : List Int} {M : Int} (h0 : 0 ≤ M) (h : ∀ j, j < nd.length → e (nd.getD j 0).toNat + (jg xs (nd.getD j 0).toNat).days ≤ M) : ∀ i, i ≤ nd.length → 0 ≤ erP xs e nd i ∧ erP xs e nd i ≤ M
  | 0, _ => ⟨Int.le_refl _, h0⟩
  | i + 1, hi => by
    have h1 := erP_bd h0 h i (by omega)
    have h2 := h i (by omega)
    show 0 ≤ max _ _ ∧ max _ _ ≤ M
    omega
theorem erP_ge {xs : List Jb} {e : Nat → Int} {nd : List Int} : ∀ {j i : Nat}, i < j → e (nd.getD i 0).toNat + (jg xs (nd.getD i 0).toNat).days ≤ erP xs e nd j
  | 0, i, h => by omega
  | j + 1, i, h => by
    show _ ≤ max _ _
    by_cases e : i = j
    · subst e; omega
    · have := erP_ge (xs := xs) (e := ‹Nat → Int›) (nd := nd) (j := j) (i := i) (by omega)
      omega
theorem erl_bd {xs : List Jb} (h : OkJ xs) : ∀ k, k < xs.length → 0 ≤ erl xs k ∧ erl xs k ≤ sumD xs k := by
  intro k
  induction k using Nat.strongRecOn with
  | ind k ih =>
    intro hk
    rw [erl_eq h hk]
    refine erP_bd ?_ (fun j hj => ?_) _ (Nat.le_refl _)
    · have := sumD_bd h k (by omega)
      omega
    · obtain ⟨p, hp, he, _⟩ := nd_at h hk hj
      rw [he, Int.toNat_natCast]
      have h1 := ih p hp (by omega)
      have h2 := sumD_lt h hp (by omega)
      omega
/-- the same of the first i needs -/
theorem erP_bdk {xs : List Jb} (h : OkJ xs) {k : Nat} (hk : k < xs.length) (i : Nat) (hi : i ≤ (jg xs k).needs.length) : 0 ≤ erP xs (erl xs) (jg xs k).needs i ∧ erP xs (erl xs) (jg xs k).needs i ≤ 400 := by
  have hs := sumD_mono h (i := k) (j := xs.length) (by omega) (Nat.le_refl _)
  have h4 := h.sum
  refine erP_bd (by omega) (fun j hj => ?_) _ hi
  obtain ⟨p, hp, he, _⟩ := nd_at h hk hj
  rw [he, Int.toNat_natCast]
  have h1 := erl_bd h p (by omega)
  have h2 := sumD_lt h hp (by omega)
  omega
theorem allD_bd {xs : List Jb} (h : OkJ xs) : ∀ k, k ≤ xs.length → 0 ≤ allD xs k ∧ allD xs k ≤ sumD xs k
  | 0, _ => ⟨Int.le_refl _, Int.le_refl _⟩
  | k + 1, hk => by
    have h1 := allD_bd h k (by omega)
    have h2 := erl_bd h k (by omega)
    have h3 := h.days k (by omega)
    show 0 ≤ max (allD xs k) (erl xs k + (jg xs k).days) ∧ max (allD xs k) (erl xs k + (jg xs k).days) ≤ sumD xs k + (jg xs k).days
    omega
theorem allD_ge {xs : List Jb} : ∀ {k i : Nat}, i < k → erl xs i + (jg xs i).days ≤ allD xs k
  | 0, i, h => by omega
  | k + 1, i, h => by
    show _ ≤ max _ _
    by_cases e : i = k
    · subst e; omega
    · have := allD_ge (xs := xs) (k := k) (i := i) (by omega)
      omega
end Go.Proofs.YtepgfcjfdnakbaaDoor
/- Jobs, part 6: the earliest days, both sides. -/
namespace Go.Proofs.YtepgfcjfdnakbaaDoor
open Go.RowKit Go.Joins

theorem flipJ {P : Program} {f : FuncId} {args : Array Value} {w : World} {v : Value} (h : Calls P f args w fun e w' => e = .returned v ∧ w = w') : Calls P f args w fun e w' => e = .returned v ∧ w' = w := h.mono fun _ _ ⟨a, b⟩ => ⟨a, b.symm⟩
set_option maxRecDepth 100000 in
set_option maxHeartbeats 3200000 in
theorem earliest_any (B : Nat) (v : Value) (xs : List Jb) (w : World) (h : RdJ w B v xs) (hB : B ≤ w.heap.size) (hk : OkJ xs) (hz : szJ xs) :
    Calls Tryd.prog 78 #[v] w (RetTb xs.length (erl xs) w) := by
  have H := Lib.hid h
  have HK := Lib.hid hk
  have HZ := Lib.hid hz
  have hl30 := hk.len
  obtain ⟨A, c, rfl⟩ := h.slice
  have hon := Lib.hid (World.ownsRow_made (base := w.heap.size) (e := 2) (size := 1) w #[] 0 (Nat.le_refl _) (by simp [maxLen]) rfl)
  have hal := Lib.hid ((Below.refl w.heap.size w).alloc (Nat.le_refl _) (.cells #[] 2))
  clear h hk hz
  go_enter Tryd.func78, Tryd.ntmps78
  go_wp2_with fail
  go_loopw [3, 12] (fun r i wr => ∃ k : Nat, k ≤ xs.length ∧ i = .int .i64 (k : Int) ∧ wr.ownsRow w.heap.size 2 1 r k (tab k (erl xs)) ∧ Below w.heap.size w wr) (fun _ i _ => xs.length - (intOf i).toNat)
  case atStart => exact ⟨0, by omega, rfl, hon.out, hal.out⟩
  case round =>
    obtain ⟨k, hk, rfl, hown, hbl⟩ := hrel
    have Hbl := Lib.hid hbl
    obtain ⟨A3, c3, rfl⟩ := own_sl hown
    have Hown := Lib.hid hown
    clear hon hal hown hbl
    by_cases hlt : k < xs.length
    · have hlt' : (k : Int) < (xs.length : Int) := by omega
      obtain ⟨gb, ob, A', c', hA, hat⟩ := (H.out.below (Hbl.out.mono hB)).at k hlt
      subst hA
      obtain ⟨hsz, hsn⟩ := HZ.out k hlt
      have HRd := Lib.hid hat.needs
      obtain ⟨_, p0, p1, p2, p3, _⟩ := hat
      have Hnd := Lib.hid (fun i hi => nd_at HK.out (k := k) (i := i) hlt hi)
      have Hbd := Lib.hid (fun i hi => erP_bdk HK.out hlt i hi)
      have Heq := Lib.hid (erl_eq HK.out hlt)
      have HAp := Lib.hid (tab_sn k (erl xs))
      generalize (jg xs k).nm = nm at *
      generalize (jg xs k).days = dd at *
      generalize (jg xs k).cost = cc at *
      generalize (jg xs k).needs = nd at *
      have hba := (Below.refl wr.heap.size wr).alloc (Nat.le_refl _) (.cells #[.string nm, .int .i64 dd, .int .i64 cc, .slice A' nd.length c'] 62)
      have Hba := Lib.hid (Hbl.out.trans (hba.mono Hbl.out.size))
      have HCa := Lib.hid (heap_alloc_new wr (.cells #[.string nm, .int .i64 dd, .int .i64 cc, .slice A' nd.length c'] 62))
      have HRa := Lib.hid (HRd.out.below (hba.mono (Nat.le_trans hB Hbl.out.size)))
      have Howa := Lib.hid (own_below Hown.out hba)
      clear hba HRd Hbl Hown
      go_upto_region 6 with (fail)
      generalize wr.alloc (.cells #[.string nm, .int .i64 dd, .int .i64 cc, .slice A' nd.length c'] 62) = wa at *
      generalize wr.heap.size = ga at *
      clear p0 p1 p2 p3
      obtain ⟨y0, y1, y2, y3⟩ := cells4 HCa.out
      obtain ⟨nl, hnl⟩ : ∃ z, nd.length = z := ⟨_, rfl⟩
      have Hnl := Lib.hid hnl
      rw [hnl] at y3 HRa hsn Heq
      clear hnl HCa
      go_wp2_with fail
      go_loopw [6, 19] (fun d i wr => ∃ i' : Nat, i' ≤ nl ∧ i = .int .i64 (i' : Int) ∧ d = .int .i64 (erP xs (erl xs) nd i') ∧ ∃ n, wr = wa.drewN n) (fun _ i _ => nl - (intOf i).toNat)
      case atStart => exact ⟨0, Nat.zero_le _, rfl, rfl, 0, rfl⟩
      case round =>
        obtain ⟨i, hi, rfl, rfl, n, rfl⟩ := hrel
        replace Hba := Lib.hid (below_drewN Hba.out n)
        replace Howa := Lib.hid (World.ownsRow.drewN Howa.out n)
        replace HRa : Hid (Rd (wa.drewN n) B (.slice A' nl c') nl 1 (intV nd)) := Lib.hid HRa.out
        replace y3 : (wa.drewN n).cell? ⟨ga, 3, none⟩ = some (.slice A' nl c') := y3
        have Hwr := Lib.hid (show ∃ m, (wa.drewN n).drew = wa.drewN m from ⟨n + 1, rfl⟩)
        generalize wa.drewN n = wr2 at *
        by_cases hil : i < nl
        · have hil' : (i : Int) < (nl : Int) := by omega
          have hid : i < nd.length := by rw [Hnl.out]; exact hil
          obtain ⟨b2, o2, hA2, _, hcc⟩ := rdI_at HRa.out Hnl.out (by omega)
          subst hA2
          have q1 := hcc i hid
          obtain ⟨p, hp, hge, hne⟩ := Hnd.out i hid
          rw [hne] at q1
          obtain ⟨g3, hA3, _, _, hc3⟩ := own_cellsI Howa.out (show 0 < k by omega)
          subst hA3
          have s0 := hc3 p hp
          obtain ⟨gb', ob', A4, c4, hA4, hat4⟩ := (H.out.below (Hba.out.mono hB)).at p (by omega)
          injection hA4 with hA4
          injection hA4 with e1 e2
          subst e1 e2
          have t1 := hat4.c1
          have hpk : (p : Int) < (k : Int) := by omega
          have hpl : (p : Int) < (xs.length : Int) := by omega
          have b0 := Hbd.out i (by omega)
          have b1 := Hbd.out (i + 1) (by omega)
          have hst : erP xs (erl xs) nd (i + 1) = max (erP xs (erl xs) nd i) (erl xs p + (jg xs p).days) := by
            show max _ _ = _
            rw [hge, Int.toNat_natCast]
          have hEb := erl_bd HK.out p (by omega)
          have hDb := HK.out.days p (by omega)
          rw [hst] at b1
          have hws : IntKind.i64.wrap (erl xs p + (jg xs p).days) = erl xs p + (jg xs p).days := IntWalk.i64_in _ (by omega)
          have Hst := Lib.hid hst
          clear hcc hc3 hat4 hst hge hne
          generalize erP xs (erl xs) nd i = y1 at *
          generalize erl xs p = ep at *
          generalize (jg xs p).days = dp at *
          go_wp2_with fail
          go_region
          all_goals go_wp2_with fail
          all_goals go_roundw
          case rel => exact ⟨i + 1, by omega, by go_num, (by rw [Hst.out]; congr 1; omega), Hwr.out⟩
          all_goals first | (simp [intOf]; done) | (simp [intOf]; omega)
        · obtain rfl : nl = i := by omega
          have hil' : ¬ ((nl : Int) < (nl : Int)) := by omega
          rw [← Heq.out]
          obtain ⟨y, hy⟩ : ∃ y, erl xs k = y := ⟨_, rfl⟩
          rw [hy] at HAp ⊢
          clear hy Heq
          go_wp2_with (at_builtin; refine wpList_apd 29 2 _ 1 8 Tryd.underlying29 infoD rfl (by omega) _ _ rfl rfl w.heap.size _ k _ rfl Howa.out #[.int .i64 y] 1 1 rfl rfl (by simp [Value.oneCell']) (by simp [maxLen]; omega) (by omega) Hba.out.size ?_; intro v7 w7 hown7 hg7; have Hb7 := Lib.hid (below_apd Hba.out Howa.out hg7 (Nat.le_refl _) Hba.out.size); obtain ⟨A7, c7, rfl⟩ := own_sl hown7; have Hown7 := Lib.hid (show w7.ownsRow w.heap.size 2 1 (.slice A7 (k + 1) c7) (k + 1) (tab (k + 1) (erl xs)) by rw [← HAp.out]; exact hown7); clear hown7 hg7)
          go_roundw
          case rel => exact ⟨k + 1, by omega, by go_num, Hown7.out, Hb7.out⟩
          case measure => first | (simp [intOf]; done) | (simp [intOf]; omega)
    · obtain rfl : k = xs.length := by omega
      have hlt' : ¬ ((xs.length : Int) < (xs.length : Int)) := by omega
      go_wp2_with fail
      go_ret
      exact ⟨_, rfl, Hown.out, Hbl.out⟩
/-- a number; the world grew -/
def RetNJ (x : Int) (w : World) (e : Ending) (w' : World) : Prop := e = .returned (.int .i64 x) ∧ Below w.heap.size w w'
set_option maxRecDepth 100000 in
set_option maxHeartbeats 3200000 in
theorem daysN_any (B : Nat) (v : Value) (xs : List Jb) (w : World) (h : RdJ w B v xs) (hB : B ≤ w.heap.size) (hk : OkJ xs) (hz : szJ xs) :
    Calls Tryd.prog 83 #[v] w (RetNJ (allD xs xs.length) w) := by
  have HC := Lib.hid (earliest_any B v xs w h hB hk hz)
  have H := Lib.hid h
  have HK := Lib.hid hk
  have hl30 := hk.len
  obtain ⟨A, c, rfl⟩ := h.slice
  clear h hk hz
  go_enter Tryd.func83, Tryd.ntmps83
  go_wp2_with fail
  refine (HC.out).mono ?_; rintro e w2 ⟨v2, rfl, ho2, hb2⟩
  have Ho2 := Lib.hid ho2
  have Hb2 := Lib.hid hb2
  obtain ⟨A2, c2, rfl⟩ := own_sl ho2
  clear ho2 hb2 HC
  go_wp2_with fail
  go_loop [3, 9] (fun d i => ∃ k : Nat, k ≤ xs.length ∧ i = .int .i64 (k : Int) ∧ d = .int .i64 (allD xs k)) (fun _ i => xs.length - (intOf i).toNat)
  case atStart => exact ⟨0, Nat.zero_le _, rfl, rfl⟩
  case round =>
    obtain ⟨k, hk, rfl, rfl⟩ := hrel
    by_cases hlt : k < xs.length
    · have hlt' : (k : Int) < (xs.length : Int) := by omega
      obtain ⟨g3, hA3, _, _, hc3⟩ := own_cellsI Ho2.out (show 0 < xs.length by omega)
      subst hA3
      have s0 := hc3 k hlt
      obtain ⟨gb, ob, A', c', hA, hat⟩ := (H.out.below (Hb2.out.mono hB)).at k hlt
      subst hA
      have t1 := hat.c1
      have hEb := erl_bd HK.out k hlt
      have hDb := HK.out.days k hlt
      have hSb := sumD_mono HK.out (i := k) (j := xs.length) (by omega) (Nat.le_refl _)
      have hs4 := HK.out.sum
      have hst : allD xs (k + 1) = max (allD xs k) (erl xs k + (jg xs k).days) := rfl
      have b1 := allD_bd HK.out (k + 1) (by omega)
      have hSb1 := sumD_mono HK.out (i := k + 1) (j := xs.length) (by omega) (Nat.le_refl _)
      have b0 := allD_bd HK.out k (by omega)
      rw [hst] at b1
      have hws : IntKind.i64.wrap (erl xs k + (jg xs k).days) = erl xs k + (jg xs k).days := IntWalk.i64_in _ (by omega)
      have Hst := Lib.hid hst
      clear hc3 hat hst
      generalize allD xs k = y1 at *
      generalize erl xs k = ep at *
      generalize (jg xs k).days = dp at *
      go_wp2_with fail
      go_round
      case rel => exact ⟨k + 1, by omega, by go_num, (by rw [Hst.out]; first | rfl | (congr 1; omega))⟩
      case measure => first | (simp [intOf]; done) | (simp [intOf]; omega)
    · obtain rfl : k = xs.length := by omega
      have hlt' : ¬ ((xs.length : Int) < (xs.length : Int)) := by omega
      go_wp2_with fail
      go_ret
      exact ⟨rfl, Hb2.out⟩
/-- a number and a code -/
def dnC (xs : List Jb) : Int := if okJ xs = true then 0 else 1
def dnV (xs : List Jb) : Int := if okJ xs = true then allD xs xs.length else 0
set_option maxRecDepth 100000 in
set_option maxHeartbeats 3200000 in
theorem DaysI_any (B : Nat) (v : Value) (xs : List Jb) (w : World) (h : RdJ w B v xs) (hB : B ≤ w.heap.size) (hn : xs.length ≤ 100000) (hz : szJ xs) :
    Calls Tryd.prog 33 #[v] w (fun e w' => e = .returned (.tuple #[.int .i64 (dnV xs), .int .i64 (dnC xs)]) ∧ Below w.heap.size w w') := by
  have HC := Lib.hid (ValidJI_any B v xs w h hB hn hz)
  have HD := Lib.hid (fun hk wx (hb : Below w.heap.size w wx) => daysN_any B v xs wx (h.below (hb.mono hB)) (Nat.le_trans hB hb.size) hk hz)
  have H := Lib.hid h
  obtain ⟨A, c, rfl⟩ := h.slice
  clear h hz
  have e1 := Lib.hid (show dnC xs = if okJ xs = true then 0 else 1 from rfl)
  have e2 := Lib.hid (show dnV xs = if okJ xs = true then allD xs xs.length else 0 from rfl)
  cases hv : okJ xs with
  | false =>
    rw [hv] at HC e1 e2
    go_enter Tryd.func33, Tryd.ntmps33
    go_wp2_with fail
    refine (HC.out).mono ?_; rintro e w2 ⟨rfl, hb2⟩
    have Hb2 := Lib.hid hb2
    clear hb2
    go_wp2_with fail
    go_ret2
    exact ⟨by rw [e1.out, e2.out]; rfl, Hb2.out⟩
  | true =>
    have HK := Lib.hid (okJ_ok hv)
    rw [hv] at HC e1 e2
    go_enter Tryd.func33, Tryd.ntmps33
    go_wp2_with fail
    refine (HC.out).mono ?_; rintro e w2 ⟨rfl, hb2⟩
    have Hb2 := Lib.hid hb2
    have HD2 := Lib.hid (HD.out HK.out w2 hb2)
    clear hb2 HD
    go_wp2_with fail
    refine (HD2.out).mono ?_; rintro e w3 ⟨rfl, hb3⟩
    have Hb3 := Lib.hid (Hb2.out.trans (hb3.mono Hb2.out.size))
    clear hb3
    go_wp2_with fail
    go_ret2
    exact ⟨by rw [e1.out, e2.out]; rfl, Hb3.out⟩
/-- a row of numbers and a number -/
def RetE2 (n : Nat) (f : Nat → Int) (x : Int) (w : World) (e : Ending) (w' : World) : Prop := ∃ v, e = .returned (.tuple #[v, .int .i64 x]) ∧ w'.ownsRow w.heap.size 2 1 v n (tab n f) ∧ Below w.heap.size w w'
set_option maxRecDepth 100000 in
set_option maxHeartbeats 3200000 in
theorem l22Early_any (B : Nat) (v : Value) (xs : List Jb) (w : World) (h : RdJ w B v xs) (hB : B ≤ w.heap.size) (hk : OkJ xs) (hz : szJ xs) :
    Calls Tryd.prog 80 #[v] w (RetE2 xs.length (erl xs) (allD xs xs.length) w) := by
  have H := Lib.hid h
  have HK := Lib.hid hk
  have HZ := Lib.hid hz
  have hl30 := hk.len
  obtain ⟨A, c, rfl⟩ := h.slice
  have hon := Lib.hid (World.ownsRow_made (base := w.heap.size) (e := 2) (size := 1) w #[] 0 (Nat.le_refl _) (by simp [maxLen]) rfl)
  have hal := Lib.hid ((Below.refl w.heap.size w).alloc (Nat.le_refl _) (.cells #[] 2))
  clear h hk hz
  go_enter Tryd.func80, Tryd.ntmps80
  go_wp2_with fail
  go_loopw [4, 5, 6] (fun r d i wr => ∃ k : Nat, k ≤ xs.length ∧ i = .int .i64 (k : Int) ∧ d = .int .i64 (allD xs k) ∧ wr.ownsRow w.heap.size 2 1 r k (tab k (erl xs)) ∧ Below w.heap.size w wr) (fun _ _ i _ => xs.length - (intOf i).toNat)
  case atStart => exact ⟨0, by omega, rfl, rfl, hon.out, hal.out⟩
  case round =>
    obtain ⟨k, hk, rfl, rfl, hown, hbl⟩ := hrel
    have Hbl := Lib.hid hbl
    obtain ⟨A3, c3, rfl⟩ := own_sl hown
    have Hown := Lib.hid hown
    clear hon hal hown hbl
    by_cases hlt : k < xs.length
    · have hlt' : (k : Int) < (xs.length : Int) := by omega
      obtain ⟨gb, ob, A', c', hA, hat⟩ := (H.out.below (Hbl.out.mono hB)).at k hlt
      subst hA
      obtain ⟨hsz, hsn⟩ := HZ.out k hlt
      have HRa := Lib.hid hat.needs
      have y3 := hat.c3
      have t1 := hat.c1
      have Hnd := Lib.hid (fun i hi => nd_at HK.out (k := k) (i := i) hlt hi)
      have Hbd := Lib.hid (fun i hi => erP_bdk HK.out hlt i hi)
      have Heq := Lib.hid (erl_eq HK.out hlt)
      have HAp := Lib.hid (tab_sn k (erl xs))
      have Hal := Lib.hid (show allD xs (k + 1) = max (allD xs k) (erl xs k + (jg xs k).days) from rfl)
      have Hdd := Lib.hid (HK.out.days k hlt)
      generalize (jg xs k).nm = nm at *
      generalize (jg xs k).needs = nd at *
      obtain ⟨nl, hnl⟩ : ∃ z, nd.length = z := ⟨_, rfl⟩
      have Hnl := Lib.hid hnl
      rw [hnl] at y3 HRa hsn Heq
      clear hnl hat
      go_wp2_with fail
      go_loopw [7, 8] (fun d i w2 => ∃ i' : Nat, i' ≤ nl ∧ i = .int .i64 (i' : Int) ∧ d = .int .i64 (erP xs (erl xs) nd i') ∧ ∃ n, w2 = wr.drewN n) (fun _ i _ => nl - (intOf i).toNat)
      case atStart => exact ⟨0, Nat.zero_le _, rfl, rfl, 0, rfl⟩
      case round =>
        obtain ⟨i, hi, rfl, rfl, n, rfl⟩ := hrel
        replace Hbl := Lib.hid (below_drewN Hbl.out n)
        replace Hown := Lib.hid (World.ownsRow.drewN Hown.out n)
        replace HRa : Hid (Rd (wr.drewN n) B (.slice A' nl c') nl 1 (intV nd)) := Lib.hid HRa.out
        replace y3 : (wr.drewN n).cell? _ = some (.slice A' nl c') := y3
        replace t1 : (wr.drewN n).cell? _ = some (.int .i64 (jg xs k).days) := t1
        have Hwr := Lib.hid (show ∀ q, ∃ m, (wr.drewN n).drewN q = wr.drewN m from fun q => ⟨n + q, by rw [World.drewN_drewN]⟩)
        generalize wr.drewN n = wr2 at *
        by_cases hil : i < nl
        · have hil' : (i : Int) < (nl : Int) := by omega
          have hid : i < nd.length := by rw [Hnl.out]; exact hil
          obtain ⟨b2, o2, hA2, _, hcc⟩ := rdI_at HRa.out Hnl.out (by omega)
          subst hA2
          have q1 := hcc i hid
          obtain ⟨p, hp, hge, hne⟩ := Hnd.out i hid
          rw [hne] at q1
          obtain ⟨g3, hA3, _, _, hc3⟩ := own_cellsI Hown.out (show 0 < k by omega)
          subst hA3
          have s0 := hc3 p hp
          obtain ⟨gb', ob', A4, c4, hA4, hat4⟩ := (H.out.below (Hbl.out.mono hB)).at p (by omega)
          injection hA4 with hA4
          injection hA4 with e1 e2
          subst e1 e2
          have t2 := hat4.c1
          have hpk : (p : Int) < (k : Int) := by omega
          have hpl : (p : Int) < (xs.length : Int) := by omega
          have b0 := Hbd.out i (by omega)
          have hst : erP xs (erl xs) nd (i + 1) = max (erP xs (erl xs) nd i) (erl xs p + (jg xs p).days) := by
            show max _ _ = _
            rw [hge, Int.toNat_natCast]
          have hEb := erl_bd HK.out p (by omega)
          have hDb := HK.out.days p (by omega)
          have b1 := Hbd.out (i + 1) (by omega)
          rw [hst] at b1
          have hws : IntKind.i64.wrap (erl xs p + (jg xs p).days) = erl xs p + (jg xs p).days := IntWalk.i64_in _ (by omega)
          have HMx := Lib.hid (fun wx => flipJ (l00Max_c (erP xs (erl xs) nd i) (erl xs p + (jg xs p).days) wx))
          rw [← hst] at HMx
          clear hcc hc3 hat4 hst hge hne b1
          generalize hy2 : erP xs (erl xs) nd (i + 1) = y2 at *
          have Hy2 := Lib.hid hy2
          clear hy2
          generalize erP xs (erl xs) nd i = y1 at *
          generalize erl xs p = ep at *
          generalize (jg xs p).days = dp at *
          go_wp2_with fail
          go_quiet ((go_at_call 100; exact Calls.quiet_of_same (HMx.out _)))
          go_wp2_with fail
          go_roundw
          case rel => exact ⟨i + 1, by omega, by go_num, (by rw [Hy2.out]), Hwr.out _⟩
          case measure => first | (simp [intOf]; done) | (simp [intOf]; omega)
        · obtain rfl : nl = i := by omega
          have hil' : ¬ ((nl : Int) < (nl : Int)) := by omega
          rw [← Heq.out]
          have b2 := allD_bd HK.out k (by omega)
          have b3 := erl_bd HK.out k hlt
          have b4 := Hdd.out
          have b5 := sumD_mono HK.out (i := k) (j := xs.length) (by omega) (Nat.le_refl _)
          have b6 := HK.out.sum
          have hws : IntKind.i64.wrap (erl xs k + (jg xs k).days) = erl xs k + (jg xs k).days := IntWalk.i64_in _ (by omega)
          have HMx := Lib.hid (fun wx => l00Max_c (allD xs k) (erl xs k + (jg xs k).days) wx)
          rw [← Hal.out] at HMx
          obtain ⟨y, hy⟩ : ∃ y, erl xs k = y := ⟨_, rfl⟩
          rw [hy] at HAp ⊢
          rw [hy] at hws HMx
          clear hy Heq
          go_wp2_with (at_builtin; refine wpList_apd 29 2 _ 1 8 Tryd.underlying29 infoD rfl (by omega) _ _ rfl rfl w.heap.size _ k _ rfl Hown.out #[.int .i64 y] 1 1 rfl rfl (by simp [Value.oneCell']) (by simp [maxLen]; omega) (by omega) Hbl.out.size ?_; intro v7 w7 hown7 hg7; have Hb7 := Lib.hid (below_apd Hbl.out Hown.out hg7 (Nat.le_refl _) Hbl.out.size); obtain ⟨A7, c7, rfl⟩ := own_sl hown7; have Hown7 := Lib.hid (show w7.ownsRow w.heap.size 2 1 (.slice A7 (k + 1) c7) (k + 1) (tab (k + 1) (erl xs)) by rw [← HAp.out]; exact hown7); clear hown7 hg7; obtain ⟨gz, oz, Az, cz, hAz, hatz⟩ := (H.out.below (Hb7.out.mono hB)).at k hlt; injection hAz with hAz; injection hAz with e1 e2; subst e1 e2; have tz := hatz.c1; clear hatz)
          refine (HMx.out _).mono ?_; rintro e w1 ⟨rfl, rfl⟩
          go_wp2_with fail
          go_roundw
          case rel => exact ⟨k + 1, by omega, by go_num, rfl, Hown7.out, Hb7.out⟩
          case measure => first | (simp [intOf]; done) | (simp [intOf]; omega)
    · obtain rfl : k = xs.length := by omega
      have hlt' : ¬ ((xs.length : Int) < (xs.length : Int)) := by omega
      go_wp2_with fail
      go_ret2
      exact ⟨_, rfl, Hown.out, Hbl.out⟩
end Go.Proofs.YtepgfcjfdnakbaaDoor
/- Inventories, part 10: what is missing for some machines, the program (gen_pc9.py). -/
namespace Go.Proofs.YtepgfcjfdnakbaaDoor
open Go.RowKit Go.Joins

end Go.Proofs.YtepgfcjfdnakbaaDoor
/- Inventories, part 11: MissingPieces, both sides (gen_pc11.py). -/
namespace Go.Proofs.YtepgfcjfdnakbaaDoor
open Go.RowKit Go.Joins

def mpC (xs : List Pc) (n : Nat) (f : Nat → Int) (mm : Int) : Int := if stC xs n f = 0 then (if inB mm 0 1000000 then 0 else 2) else stC xs n f
def mpN (xs : List Pc) (n : Nat) (f : Nat → Int) (mm : Int) : Nat := if mpC xs n f mm = 0 then xs.length else 0
theorem mpC_ok {xs : List Pc} {n : Nat} {f : Nat → Int} {mm : Int} (h : mpC xs n f mm = 0) : stC xs n f = 0 ∧ 0 ≤ mm ∧ mm ≤ 1000000 := by
  unfold mpC at h
  split at h
  · rename_i h1
    split at h
    · rename_i h2
      exact ⟨h1, inB_iff.1 h2⟩
    · cases h
  · rename_i h1
    exact absurd h h1
def RetMp (xs : List Pc) (n : Nat) (f : Nat → Int) (mm : Int) (w : World) (e : Ending) (w' : World) : Prop := ∃ v, e = .returned (.tuple #[v, .int .i64 (mpC xs n f mm)]) ∧ w'.ownsRow w.heap.size 2 1 v (mpN xs n f mm) (tab (mpN xs n f mm) (ms xs f mm)) ∧ Below w.heap.size w w'
theorem RetMp.bad {xs : List Pc} {n : Nat} {f : Nat → Int} {mm c : Int} {w w' : World} (h : mpC xs n f mm = c) (hc : c ≠ 0) (hb : Below w.heap.size w w') : RetMp xs n f mm w (.returned (.tuple #[.slice none 0 0, .int .i64 c])) w' := by
  have e : mpN xs n f mm = 0 := by unfold mpN; rw [h, if_neg hc]
  refine ⟨_, by rw [h], ?_, hb⟩
  rw [e]
  exact ⟨by simp [tab], .inl ⟨rfl, rfl⟩⟩
end Go.Proofs.YtepgfcjfdnakbaaDoor
/- Inventories, part 12: how many machines can be made, in plain words. -/
namespace Go.Proofs.YtepgfcjfdnakbaaDoor
open Go.RowKit Go.Joins

/-- some piece in front of place m, not the first, belongs to piece j -/
def whoS (xs : List Pc) (m j : Nat) : Bool := (List.range m).any fun k => decide (0 < k) && ((pg xs k).par == (j : Int))
theorem whoS_one (xs : List Pc) (j : Nat) : whoS xs 1 j = false := rfl
theorem whoS_succ (xs : List Pc) {m j : Nat} (h0 : 0 < m) : whoS xs (m + 1) j = (whoS xs m j || ((pg xs m).par == (j : Int))) := by
  unfold whoS
  rw [List.range_succ, List.any_append]
  simp [h0]
theorem whoS_put (xs : List Pc) {m p : Nat} (h0 : 0 < m) (hp : (pg xs m).par = (p : Int)) (n : Nat) : tabB n (putB (whoS xs m) p true) = tabB n (whoS xs (m + 1)) := tabB_congr fun i _ => by
  rw [whoS_succ xs h0, hp]
  unfold putB
  by_cases h : i = p
  · subst h; simp
  · rw [if_neg h]
    have : ((p : Int) == (i : Int)) = false := by simp; omega
    rw [this, Bool.or_false]
/-- the pieces without others are all there -/
def mkB (xs : List Pc) (st : Nat → Int) (n : Nat) (mm : Int) : Bool := allN n fun k => whoS xs n k || (ms xs st mm k == 0)
theorem need_zero {xs : List Pc} {n : Nat} (hs : Shp xs n) {st : Nat → Int} (hst : ∀ i, i < n → 0 ≤ st i) {k : Nat} (hk : k < n) : ms xs st 0 k = 0 := by
  have h := ms_bd hs (M := 0) hst k hk
  rw [Nat.zero_mul] at h
  have e : ((0 : Nat) : Int) = 0 := rfl
  rw [e] at h
  omega
theorem mkB_zero {xs : List Pc} {n : Nat} (hs : Shp xs n) {st : Nat → Int} (hst : ∀ i, i < n → 0 ≤ st i) : mkB xs st n 0 = true := by
  unfold mkB allN
  rw [List.all_eq_true]
  intro k hk
  rw [need_zero hs hst (List.mem_range.1 hk)]
  simp
theorem ms_mono {xs : List Pc} {n : Nat} (hs : Shp xs n) {st : Nat → Int} {a b : Int} (hab : a ≤ b) : ∀ k, k < n → ms xs st a k ≤ ms xs st b k := by
  intro k
  induction k using Nat.strongRecOn with
  | ind k ih =>
    intro hk
    have he := hs.each k hk
    rw [ms_eq hs st a hk, ms_eq hs st b hk]
    have : need xs st a k ≤ need xs st b k := by
      unfold need needS
      by_cases h0 : k = 0
      · subst h0
        rw [if_pos rfl, if_pos rfl]
        exact Int.mul_le_mul_of_nonneg_right hab (by omega)
      · have hp := hs.par k (by omega) hk
        rw [if_neg h0, if_neg h0]
        exact Int.mul_le_mul_of_nonneg_left (ih _ (by omega) (by omega)) (by omega)
    omega
theorem ms_nn {xs : List Pc} {n : Nat} (hs : Shp xs n) (st : Nat → Int) (a : Int) {k : Nat} (hk : k < n) : 0 ≤ ms xs st a k := by
  rw [ms_eq hs st a hk]; omega
theorem mkB_mono {xs : List Pc} {n : Nat} (hs : Shp xs n) {st : Nat → Int} {a b : Int} (hab : a ≤ b) (h : mkB xs st n b = true) : mkB xs st n a = true := by
  unfold mkB at h ⊢
  unfold allN at h ⊢
  rw [List.all_eq_true] at h ⊢
  intro k hk
  have h1 := h k hk
  have hk' := List.mem_range.1 hk
  have h2 := ms_mono hs (st := st) hab k hk'
  have h3 := ms_nn hs st a hk'
  cases hw : whoS xs n k with
  | true => rfl
  | false =>
    rw [hw, Bool.false_or] at h1
    have h1 := eq_of_beq h1
    have : ms xs st a k = 0 := by omega
    rw [this]; rfl
/-- the greatest number of machines that can be made -/
structure BestM (xs : List Pc) (st : Nat → Int) (n r : Nat) : Prop where
  le : r ≤ 1000000
  can : mkB xs st n (r : Int) = true
  top : r = 1000000 ∨ mkB xs st n ((r : Int) + 1) = false
theorem BestM.uniq {xs : List Pc} {st : Nat → Int} {n a b : Nat} (hs : Shp xs n) (ha : BestM xs st n a) (hb : BestM xs st n b) : a = b := by
  have key : ∀ {p q : Nat}, BestM xs st n p → BestM xs st n q → q ≤ p := by
    intro p q hp hq
    rcases hp.top with h | h
    · have := hq.le; omega
    · apply Classical.byContradiction
      intro hn
      have := mkB_mono hs (a := (p : Int) + 1) (b := (q : Int)) (by omega) hq.can
      rw [this] at h
      cases h
  have := key ha hb
  have := key hb ha
  omega
end Go.Proofs.YtepgfcjfdnakbaaDoor
