/- Merged texts: Pa12, Pa13, Dg1, Pa14, M8, M9, Pa15. -/
import Derived.Test.YtnhngccfbnnpoaaDoorGCardPages7
import Derived.Test.YtnhngccfbnnpoaaDoorGCardPages3
import Derived.Test.YtnhngccfbnnpoaaDoorGCardPages1
import Derived.Test.YtnhngccfbnnpoaaDoorGCardPages4
/- Printed pages, part 12: SamePage and PageFaultName of both sides, ValidPage of the reference (gen_pa12.py). -/
namespace Go.Proofs.YtnhngccfbnnpoaaDoor
open Go.RowKit Go.Joins

def smPg (s : ByteArray) (a b : Int) (n : Nat) (f : Nat → Int) (s' : ByteArray) (a' b' : Int) (m : Nat) (g : Nat → Int) : Bool := decide (s = s') && decide (a = a') && decide (b = b') && smJ n m f g
theorem smPg_self (s : ByteArray) (a b : Int) (n : Nat) {f g : Nat → Int} (h : ∀ i, i < n → f i = g i) : smPg s a b n f s a b n g = true := by
  unfold smPg
  rw [smJ_yes h, decide_eq_true rfl, decide_eq_true rfl, decide_eq_true rfl]; rfl
theorem ret_bool' {b c : Bool} (h : b = c) : Ending.returned (.bool b) = .returned (.bool c) := by rw [h]
set_option maxRecDepth 100000 in
set_option maxHeartbeats 1600000 in
theorem SamePgI_any (B B' : Nat) (s : ByteArray) (a b : Int) (v : Value) (n : Nat) (f : Nat → Int) (s' : ByteArray) (a' b' : Int) (v' : Value) (m : Nat) (g : Nat → Int) (w : World) (h : Rd w B v n 1 (tab n f)) (hB : B ≤ w.heap.size) (h' : Rd w B' v' m 1 (tab m g)) (hB' : B' ≤ w.heap.size) (hn : n ≤ 1000) :
    Calls Tryd.prog 26 #[.agg #[.string s, .int .i64 a, .int .i64 b, v], .agg #[.string s', .int .i64 a', .int .i64 b', v']] w fun e w' => e = .returned (.bool (smPg s a b n f s' a' b' m g)) ∧ Below w.heap.size w w' := by
  obtain ⟨A, c, rfl⟩ := rd_sl h
  obtain ⟨A', c', rfl⟩ := rd_sl h'
  have hb1 := ((Below.refl w.heap.size w).alloc (Nat.le_refl _) (.cells #[.string s, .int .i64 a, .int .i64 b, .slice A n c] 26)).alloc (by simp) (.cells #[.string s', .int .i64 a', .int .i64 b', .slice A' m c'] 26)
  obtain ⟨f0, f1, f2, f3, _⟩ := blk4 (heap_first4 w (.cells #[.string s', .int .i64 a', .int .i64 b', .slice A' m c'] 26) #[.string s, .int .i64 a, .int .i64 b, .slice A n c] 26)
  obtain ⟨k0, k1, k2, k3, _⟩ := blk4 (heap_second4 w (.cells #[.string s, .int .i64 a, .int .i64 b, .slice A n c] 26) #[.string s', .int .i64 a', .int .i64 b', .slice A' m c'] 26)
  have HL := Lib.hid (sameNumJ_any B B' _ _ n m f g _ (h.below (hb1.mono hB)) (h'.below (hb1.mono hB')) (by omega))
  have Hb1 := Lib.hid hb1
  clear hb1 h h'
  by_cases hs : s = s'
  · subst hs
    by_cases ha : a = a'
    · subst ha
      by_cases hbb : b = b'
      · subst hbb
        have HZ := Lib.hid (show smPg s a b n f s a b m g = smJ n m f g by unfold smPg; rw [decide_eq_true rfl, decide_eq_true rfl, decide_eq_true rfl]; rfl)
        generalize smJ n m f g = r at *
        go_enter Tryd.func26, Tryd.ntmps26
        go_wp2_with fail
        generalize (w.alloc (.cells #[.string s, .int .i64 a, .int .i64 b, .slice A n c] 26)).alloc (.cells #[.string s, .int .i64 a, .int .i64 b, .slice A' m c'] 26) = w1 at *
        go_wp2_with fail
        refine HL.out.mono ?_; rintro e w2 ⟨rfl, hw2⟩
        have HB2 := Lib.hid (show Below w.heap.size w w2 by first | (rw [← hw2]; exact Hb1.out) | (rw [hw2]; exact Hb1.out) | (obtain ⟨d, hd⟩ := hw2; rw [hd]; exact below_drewN Hb1.out d))
        clear hw2
        go_wp2_with fail
        go_ret
        exact ⟨ret_bool HZ.out.symm, HB2.out⟩
      · have HZ := Lib.hid (show smPg s a b n f s a b' m g = false by unfold smPg; rw [decide_eq_false hbb]; simp)
        have hbb' : (b == b') = false := beq_eq_false_iff_ne.2 hbb
        clear HL
        go_enter Tryd.func26, Tryd.ntmps26
        go_wp2_with fail
        generalize (w.alloc (.cells #[.string s, .int .i64 a, .int .i64 b, .slice A n c] 26)).alloc (.cells #[.string s, .int .i64 a, .int .i64 b', .slice A' m c'] 26) = w1 at *
        go_wp2_with fail
        go_ret
        exact ⟨ret_bool HZ.out.symm, Hb1.out⟩
    · have HZ := Lib.hid (show smPg s a b n f s a' b' m g = false by unfold smPg; rw [decide_eq_false ha]; simp)
      have ha' : (a == a') = false := beq_eq_false_iff_ne.2 ha
      clear HL
      go_enter Tryd.func26, Tryd.ntmps26
      go_wp2_with fail
      generalize (w.alloc (.cells #[.string s, .int .i64 a, .int .i64 b, .slice A n c] 26)).alloc (.cells #[.string s, .int .i64 a', .int .i64 b', .slice A' m c'] 26) = w1 at *
      go_wp2_with fail
      go_ret
      exact ⟨ret_bool HZ.out.symm, Hb1.out⟩
  · have HZ := Lib.hid (show smPg s a b n f s' a' b' m g = false by unfold smPg; rw [decide_eq_false hs]; rfl)
    have hs' := ba_neq hs
    clear HL hs
    go_enter Tryd.func26, Tryd.ntmps26
    go_wp2_with fail
    generalize (w.alloc (.cells #[.string s, .int .i64 a, .int .i64 b, .slice A n c] 26)).alloc (.cells #[.string s', .int .i64 a', .int .i64 b', .slice A' m c'] 26) = w1 at *
    go_wp2_with fail
    go_ret
    exact ⟨ret_bool HZ.out.symm, Hb1.out⟩
set_option maxRecDepth 100000 in
set_option maxHeartbeats 1600000 in
theorem SamePgS_any (B B' : Nat) (s : ByteArray) (a b : Int) (v : Value) (n : Nat) (f : Nat → Int) (s' : ByteArray) (a' b' : Int) (v' : Value) (m : Nat) (g : Nat → Int) (w : World) (h : Rd w B v n 1 (tab n f)) (hB : B ≤ w.heap.size) (h' : Rd w B' v' m 1 (tab m g)) (hB' : B' ≤ w.heap.size) (hn : n ≤ 1000) :
    Calls Tryd.prog 25 #[.agg #[.string s, .int .i64 a, .int .i64 b, v], .agg #[.string s', .int .i64 a', .int .i64 b', v']] w fun e w' => e = .returned (.bool (smPg s a b n f s' a' b' m g)) ∧ Below w.heap.size w w' := by
  obtain ⟨A, c, rfl⟩ := rd_sl h
  obtain ⟨A', c', rfl⟩ := rd_sl h'
  have hb1 := ((Below.refl w.heap.size w).alloc (Nat.le_refl _) (.cells #[.string s, .int .i64 a, .int .i64 b, .slice A n c] 26)).alloc (by simp) (.cells #[.string s', .int .i64 a', .int .i64 b', .slice A' m c'] 26)
  obtain ⟨f0, f1, f2, f3, _⟩ := blk4 (heap_first4 w (.cells #[.string s', .int .i64 a', .int .i64 b', .slice A' m c'] 26) #[.string s, .int .i64 a, .int .i64 b, .slice A n c] 26)
  obtain ⟨k0, k1, k2, k3, _⟩ := blk4 (heap_second4 w (.cells #[.string s, .int .i64 a, .int .i64 b, .slice A n c] 26) #[.string s', .int .i64 a', .int .i64 b', .slice A' m c'] 26)
  have HL := Lib.hid (l00SameJ_any B B' _ _ n m f g _ (h.below (hb1.mono hB)) (h'.below (hb1.mono hB')) (by omega))
  have Hb1 := Lib.hid hb1
  clear hb1 h h'
  by_cases hs : s = s'
  · subst hs
    by_cases ha : a = a'
    · subst ha
      by_cases hbb : b = b'
      · subst hbb
        have HZ := Lib.hid (show smPg s a b n f s a b m g = smJ n m f g by unfold smPg; rw [decide_eq_true rfl, decide_eq_true rfl, decide_eq_true rfl]; rfl)
        generalize smJ n m f g = r at *
        go_enter Tryd.func25, Tryd.ntmps25
        go_wp2_with fail
        generalize (w.alloc (.cells #[.string s, .int .i64 a, .int .i64 b, .slice A n c] 26)).alloc (.cells #[.string s, .int .i64 a, .int .i64 b, .slice A' m c'] 26) = w1 at *
        go_wp2_with fail
        refine HL.out.mono ?_; rintro e w2 ⟨rfl, hw2⟩
        have HB2 := Lib.hid (show Below w.heap.size w w2 by first | (rw [← hw2]; exact Hb1.out) | (rw [hw2]; exact Hb1.out) | (obtain ⟨d, hd⟩ := hw2; rw [hd]; exact below_drewN Hb1.out d))
        clear hw2
        go_wp2_with fail
        go_ret
        exact ⟨ret_bool HZ.out.symm, HB2.out⟩
      · have HZ := Lib.hid (show smPg s a b n f s a b' m g = false by unfold smPg; rw [decide_eq_false hbb]; simp)
        have hbb' : (b == b') = false := beq_eq_false_iff_ne.2 hbb
        clear HL
        go_enter Tryd.func25, Tryd.ntmps25
        go_wp2_with fail
        generalize (w.alloc (.cells #[.string s, .int .i64 a, .int .i64 b, .slice A n c] 26)).alloc (.cells #[.string s, .int .i64 a, .int .i64 b', .slice A' m c'] 26) = w1 at *
        go_wp2_with fail
        go_ret
        exact ⟨ret_bool HZ.out.symm, Hb1.out⟩
    · have HZ := Lib.hid (show smPg s a b n f s a' b' m g = false by unfold smPg; rw [decide_eq_false ha]; simp)
      have ha' : (a == a') = false := beq_eq_false_iff_ne.2 ha
      clear HL
      go_enter Tryd.func25, Tryd.ntmps25
      go_wp2_with fail
      generalize (w.alloc (.cells #[.string s, .int .i64 a, .int .i64 b, .slice A n c] 26)).alloc (.cells #[.string s, .int .i64 a', .int .i64 b', .slice A' m c'] 26) = w1 at *
      go_wp2_with fail
      go_ret
      exact ⟨ret_bool HZ.out.symm, Hb1.out⟩
  · have HZ := Lib.hid (show smPg s a b n f s' a' b' m g = false by unfold smPg; rw [decide_eq_false hs]; rfl)
    have hs' := ba_neq hs
    clear HL hs
    go_enter Tryd.func25, Tryd.ntmps25
    go_wp2_with fail
    generalize (w.alloc (.cells #[.string s, .int .i64 a, .int .i64 b, .slice A n c] 26)).alloc (.cells #[.string s', .int .i64 a', .int .i64 b', .slice A' m c'] 26) = w1 at *
    go_wp2_with fail
    go_ret
    exact ⟨ret_bool HZ.out.symm, Hb1.out⟩
def pfN (n : Int) : ByteArray := if n = 0 then ⟨#[110, 111, 110, 101]⟩ else if n = 1 then ⟨#[104, 101, 97, 100]⟩ else if n = 2 then ⟨#[102, 111, 114, 109]⟩ else if n = 3 then ⟨#[97, 114, 103, 117, 109, 101, 110, 116]⟩
  else if n = 4 then ⟨#[99, 104, 101, 99, 107]⟩ else if n = 5 then ⟨#[102, 111, 111, 116]⟩ else ⟨#[]⟩
theorem pfN_ne {n : Int} (h0 : 0 ≤ n) (h5 : n ≤ 5) : ((pfN n).toList == []) = false := by
  have h : 0 < (pfN n).size := by
    obtain rfl | rfl | rfl | rfl | rfl | rfl : n = 0 ∨ n = 1 ∨ n = 2 ∨ n = 3 ∨ n = 4 ∨ n = 5 := by omega
    all_goals decide
  have h2 := ne_some h
  cases e : (pfN n).toList with
  | nil => rw [e] at h2; cases h2
  | cons _ _ => rfl
set_option maxRecDepth 100000 in
set_option maxHeartbeats 800000 in
theorem PfNameS_any (n : Int) (w : World) : Calls Tryd.prog 28 #[.int .i64 n] w fun e w' => e = .returned (.string (pfN n)) ∧ Below w.heap.size w w' := by
  have hb0 := (Below.refl w.heap.size w).alloc (Nat.le_refl _)
  by_cases h : 0 ≤ n ∧ n ≤ 5
  · obtain rfl | rfl | rfl | rfl | rfl | rfl : n = 0 ∨ n = 1 ∨ n = 2 ∨ n = 3 ∨ n = 4 ∨ n = 5 := by omega
    all_goals
      go_enter Tryd.func28, Tryd.ntmps28
      go_wp2
      go_ret
      exact ⟨rfl, hb0 _⟩
  · have e1 := Lib.hid (show pfN n = ⟨#[]⟩ by unfold pfN; rw [if_neg (by omega), if_neg (by omega), if_neg (by omega), if_neg (by omega), if_neg (by omega), if_neg (by omega)])
    have e2 : inB n 0 5 = false := by simp [inB]; omega
    go_enter Tryd.func28, Tryd.ntmps28
    go_wp2_with fail
    refine (l00In_any _ _ _ _).mono ?_; rintro e w1 ⟨rfl, rfl⟩
    go_wp2_with fail
    go_ret
    rw [e1.out]; exact ⟨rfl, hb0 _⟩
set_option maxRecDepth 100000 in
set_option maxHeartbeats 800000 in
theorem PfNameI_any (n : Int) (w : World) : Calls Tryd.prog 27 #[.int .i64 n] w fun e w' => e = .returned (.string (pfN n)) ∧ Below w.heap.size w w' := by
  have hb0 := (Below.refl w.heap.size w).alloc (Nat.le_refl _)
  by_cases h : 0 ≤ n ∧ n ≤ 5
  · obtain rfl | rfl | rfl | rfl | rfl | rfl : n = 0 ∨ n = 1 ∨ n = 2 ∨ n = 3 ∨ n = 4 ∨ n = 5 := by omega
    all_goals
      go_enter Tryd.func27, Tryd.ntmps27
      go_wp2
      go_ret
      exact ⟨rfl, hb0 _⟩
  · have e1 := Lib.hid (show pfN n = ⟨#[]⟩ by unfold pfN; rw [if_neg (by omega), if_neg (by omega), if_neg (by omega), if_neg (by omega), if_neg (by omega), if_neg (by omega)])
    have e2 : inB n 0 5 = false := by simp [inB]; omega
    go_enter Tryd.func27, Tryd.ntmps27
    go_wp2_with fail
    refine (between_any _ _ _ _).mono ?_; rintro e w1 ⟨rfl, rfl⟩
    go_wp2_with fail
    go_ret
    rw [e1.out]; exact ⟨rfl, hb0 _⟩
theorem ValidPageS_any (B : Nat) (s : ByteArray) (a b : Int) (v : Value) (n : Nat) (f : Nat → Int) (w : World) (hs : s.size ≤ 1048576) (h : Rd w B v n 1 (tab n f)) (hB : B ≤ w.heap.size) (hn : n ≤ 1000) :
    Calls Tryd.prog 30 #[.agg #[.string s, .int .i64 a, .int .i64 b, v]] w fun e w' => e = .returned (.bool (pgOk s.data.toList a b n f)) ∧ Below w.heap.size w w' := by
  obtain ⟨A, c, rfl⟩ := rd_sl h
  have hb1 := (Below.refl w.heap.size w).alloc (Nat.le_refl _) (.cells #[.string s, .int .i64 a, .int .i64 b, .slice A n c] 26)
  obtain ⟨f0, f1, f2, f3, _⟩ := blk4 (heap_alloc_new w (.cells #[.string s, .int .i64 a, .int .i64 b, .slice A n c] 26))
  have HV := Lib.hid (l18Ok_c w.heap.size B s a b A n c f _ hs f0 f1 f2 f3 (h.below (hb1.mono hB)) hn)
  have HB := Lib.hid hb1
  clear f0 f1 f2 f3 hb1 h
  generalize pgOk s.data.toList a b n f = r at *
  go_enter Tryd.func30, Tryd.ntmps30
  go_wp2_with fail
  generalize w.alloc (.cells #[.string s, .int .i64 a, .int .i64 b, .slice A n c] 26) = w1 at *
  refine HV.out.mono ?_; rintro e w2 ⟨rfl, d, hd⟩
  have HB2 := Lib.hid (show Below w.heap.size w w2 by rw [hd]; exact below_drewN HB.out d)
  clear hd
  go_wp2_with fail
  go_ret
  exact ⟨rfl, HB2.out⟩
end Go.Proofs.YtnhngccfbnnpoaaDoor
/- Printed pages, part 13: a valid page is drawn (gen_pa13.py, out of M7). -/
namespace Go.Proofs.YtnhngccfbnnpoaaDoor
open Go.RowKit Go.Joins
attribute [local go_sem ↓] Go.wp_at_zero Go.wp_at_succ

theorem mul_bdA {c : Int} {j C J : Nat} (h0 : -(C : Int) ≤ c) (h1 : c ≤ (C : Int)) (hj : j ≤ J) : -((C * J : Nat) : Int) ≤ c * (j : Int) ∧ c * (j : Int) ≤ ((C * J : Nat) : Int) := by
  have h2 : c.natAbs ≤ C := by omega
  have h3 : (c * (j : Int)).natAbs ≤ C * J := by
    rw [Int.natAbs_mul]
    exact Nat.mul_le_mul h2 (by simpa using hj)
  generalize c * (j : Int) = z at *
  generalize C * J = K at *
  omega
theorem isV_of {y : Int} (h0 : -1000000000000 ≤ y) (h1 : y ≤ 1000000000000) : isV y = true := inB_iff.2 ⟨h0, h1⟩
theorem vs_snoc {j : Nat} {f : Nat → Int} {y : Int} (h : ∀ i, i < j → isV (f i) = true) (hy : isV y = true) : ∀ i, i < j + 1 → isV ((fun k => if k < j then f k else y) i) = true := fun i hi => by
  dsimp only
  by_cases e : i < j
  · rw [if_pos e]; exact h i e
  · rw [if_neg e]; exact hy
theorem pg_draw {s : ByteArray} {a b : Int} {n : Nat} {f : Nat → Int} (hs : isNm s.data.toList = true) (h : (-10 ≤ a ∧ a ≤ 29) ∧ 1 ≤ b ∧ b ≤ 4) (hn : 1 ≤ n) (hn2 : n ≤ 50) (hv : ∀ i, i < n → isV (f i) = true) : pgOk s.data.toList a b n f = true := by
  rw [pgOk_hd, Bool.and_eq_true]
  refine ⟨List.all_eq_true.2 fun i hi => hv i (List.mem_range.1 hi), ?_⟩
  have hp := prod_bd (n := n) (b := b) (by omega) (by omega)
  unfold hdOk
  simp only [Bool.and_eq_true, decide_eq_true_eq]
  refine ⟨⟨⟨⟨hs, inB_iff.2 (by omega)⟩, inB_iff.2 (by omega)⟩, inB_iff.2 (by omega)⟩, ?_⟩
  unfold lastA
  omega
/-- a valid page is drawn -/
def DrawnQ (M : Nat) (w : World) (B gs K : Nat) (bs : List UInt8) (e : Ending) (w' : World) : Prop :=
  ∃ s a b v n f, e = .returned (.agg #[.string s, .int .i64 a, .int .i64 b, v]) ∧ pgOk s.data.toList a b n f = true ∧ 1 ≤ n ∧ n ≤ M ∧ w'.ownsRow w.heap.size 2 1 v n (tab n f) ∧ SrcAt w' B gs K bs ∧ w.grownBy w' (some gs)
set_option maxRecDepth 100000 in
set_option maxHeartbeats 3200000 in
theorem l18DrawM_c (M : Nat) (hM1 : 2 ≤ M) (hM : M ≤ 50) (B gs k : Nat) (bs : List UInt8) (w : World) (h : SrcAt w B gs k bs) (hk : k < 4611686018427380000) : Calls Tryd.prog 47 #[.pointer (some ⟨gs, 0, none⟩), .int .i64 (M : Int)] w (DrawnQ M w B gs (k + 250) bs) := by
  have hgl := h.lt
  have hA := (Below.refl w.heap.size w).alloc (Nat.le_refl _) (.cells #[.string ⟨#[]⟩, .int .i64 0, .int .i64 0, .slice none 0 0] 26)
  have HZ1 := Lib.hid (heap_alloc_new w (.cells #[.string ⟨#[]⟩, .int .i64 0, .int .i64 0, .slice none 0 0] 26))
  have Hg1 := Lib.hid (grown_of_below hA (some gs))
  have Hs1 := Lib.hid (h.below hA)
  have hlt1 : w.heap.size < (w.alloc (.cells #[.string ⟨#[]⟩, .int .i64 0, .int .i64 0, .slice none 0 0] 26)).heap.size := by simp
  have Hw1 := Lib.hid (show (w.alloc (.cells #[.string ⟨#[]⟩, .int .i64 0, .int .i64 0, .slice none 0 0] 26)).heap.size = w.heap.size + 1 by simp)
  clear h hA
  go_enter Tryd.func47, Tryd.ntmps47
  go_wp2_with fail
  generalize w.alloc (.cells #[.string ⟨#[]⟩, .int .i64 0, .int .i64 0, .slice none 0 0] 26) = w1 at *
  rw [← Hw1.out]
  refine (text_c B gs k 3 [⟨#[115, 113, 117, 97, 114, 101, 115]⟩, ⟨#[99, 117, 98, 101, 115]⟩, ⟨#[116, 45, 49]⟩] bs w1 Hs1.out (by omega) rfl (by omega) (by omega)).mono ?_; rintro e w2 ⟨s, hsl, rfl, hs2, hg2⟩
  have Hss := Lib.hid (show isNm s.data.toList = true by
    simp only [List.mem_cons, List.not_mem_nil, or_false] at hsl
    rcases hsl with rfl | rfl | rfl <;> decide)
  have Hs2 := Lib.hid hs2
  have Hg2 := Lib.hid (grown_trans Hg1.out hg2)
  have HZ2 := Lib.hid ((hg2.block w.heap.size hlt1 (fun e => by injection e; omega)).trans HZ1.out)
  have hlt2 := Nat.lt_of_lt_of_le hlt1 hg2.size
  clear hs2 hg2 hsl HZ1 Hg1 Hs1
  go_wp2_with fail
  refine (pick_any B gs (k + 2) bs 40 _ Hs2.out (by omega)).mono ?_; rintro e w3 ⟨a0, rfl, ⟨ha0, ha1, _⟩, hs3, hg3⟩
  have ha2 := ha1 (by omega)
  have Hs3 := Lib.hid hs3
  have Hg3 := Lib.hid (grown_trans Hg2.out hg3)
  have HZ3 := Lib.hid ((hg3.block w.heap.size hlt2 (fun e => by injection e; omega)).trans HZ2.out)
  have hlt3 := Nat.lt_of_lt_of_le hlt2 hg3.size
  clear hs3 hg3 ha1 HZ2 Hg2 Hs2
  go_wp2_with fail
  refine (pick_any B gs (k + 2 + 2) bs 4 _ Hs3.out (by omega)).mono ?_; rintro e w4 ⟨b0, rfl, ⟨hb0, hb1, _⟩, hs4, hg4⟩
  have hb2 := hb1 (by omega)
  have HZ4 := (hg4.block w.heap.size hlt3 (fun e => by injection e; omega)).trans HZ3.out
  have hg4' := grown_trans Hg3.out hg4
  have hA := (Below.refl w4.heap.size w4).alloc (Nat.le_refl _) (.cells #[.string s, .int .i64 (a0 - 10), .int .i64 (1 + b0), .slice none 0 0] 26)
  have hlt4 := Nat.lt_of_lt_of_le hlt3 hg4.size
  have Hp := Lib.hid (show PgAt gs w (w4.alloc (.cells #[.string s, .int .i64 (a0 - 10), .int .i64 (1 + b0), .slice none 0 0] 26)) w.heap.size w4.heap.size s (a0 - 10) (1 + b0) (.slice none 0 0) 0 (fun _ => 0) from
    ⟨(hA.block w.heap.size hlt4).trans HZ4, heap_alloc_new w4 _, World.ownsRow_nil _ _ _ _, grown_below hg4' hA⟩)
  have Hs5 := Lib.hid (hs4.below hA)
  clear hs4 hg4 hb1 HZ3 HZ4 Hg3 Hs3 hg4' hA hlt1 hlt2 hlt3
  go_wp2_with fail
  generalize w4.alloc (.cells #[.string s, .int .i64 (a0 - 10), .int .i64 (1 + b0), .slice none 0 0] 26) = w5 at *
  generalize w4.heap.size = gp at *
  have hzp : w.heap.size ≠ gp := by omega
  have hpp : w.heap.size ≤ gp := by omega
  have Hab := Lib.hid (show (-10 ≤ a0 - 10 ∧ a0 - 10 ≤ 29) ∧ 1 ≤ 1 + b0 ∧ 1 + b0 ≤ 4 by omega)
  generalize a0 - 10 = a at *
  generalize 1 + b0 = b at *
  refine (pick_any B gs (k + 2 + 2 + 2) bs 5 _ Hs5.out (by omega)).mono ?_; rintro e w6 ⟨c1, rfl, ⟨hc0, hc1, _⟩, hs6, hg6⟩
  have hc2 := hc1 (by omega)
  have Hp6 := Lib.hid (Hp.out.pick hgl (Nat.le_refl _) hpp hg6)
  have Hs6 := Lib.hid hs6
  clear hs6 hg6 hc1 Hp Hs5
  go_wp2_with fail
  refine (pick_any B gs (k + 2 + 2 + 2 + 2) bs 9 _ Hs6.out (by omega)).mono ?_; rintro e w7 ⟨d1, rfl, ⟨hd0, hd1, _⟩, hs7, hg7⟩
  have hd2 := hd1 (by omega)
  have Hp7 := Lib.hid (Hp6.out.pick hgl (Nat.le_refl _) hpp hg7)
  have Hs7 := Lib.hid hs7
  clear hs7 hg7 hd1 Hp6 Hs6
  go_wp2_with fail
  refine (pick_any B gs (k + 2 + 2 + 2 + 2 + 2) bs 3 _ Hs7.out (by omega)).mono ?_; rintro e w8 ⟨e1, rfl, ⟨he0, he1, _⟩, hs8, hg8⟩
  have he2 := he1 (by omega)
  have Hp8 := Lib.hid (Hp7.out.pick hgl (Nat.le_refl _) hpp hg8)
  have Hs8 := Lib.hid hs8
  clear hs8 hg8 he1 Hp7 Hs7
  go_wp2_with fail
  refine (pick_any B gs (k + 2 + 2 + 2 + 2 + 2 + 2) bs (M : Int) _ Hs8.out (by omega)).mono ?_; rintro e w9 ⟨m0, rfl, ⟨hm0, hm1, _⟩, hs9, hg9⟩
  have hm2 := hm1 (by omega)
  obtain ⟨m, rfl⟩ : ∃ m : Nat, m0 = (m : Int) := ⟨m0.toNat, by omega⟩
  have Hp9 := Lib.hid (Hp8.out.pick hgl (Nat.le_refl _) hpp hg9)
  have Hs9 := Lib.hid hs9
  clear hs9 hg9 hm1 Hp8 Hs8
  go_wp2_with fail
  have Hcd := Lib.hid (show (-3 ≤ c1 - 1 ∧ c1 - 1 ≤ 3) ∧ (-4 ≤ d1 - 4 ∧ d1 - 4 ≤ 4) ∧ (-2 ≤ e1 ∧ e1 ≤ 2) by omega)
  generalize c1 - 1 = c at *
  generalize d1 - 4 = d at *
  go_loopw [9] (fun i wr => ∃ (j q : Nat) (v : Value) (f : Nat → Int), j + q = m + 1 ∧ (∀ i, i < j → isV (f i) = true) ∧ i = .int .i64 (q : Int) ∧ PgAt gs w wr w.heap.size gp s a b v j f ∧ SrcAt wr B gs (k + 14 + 4 * j) bs) (fun i _ => (intOf i).toNat)
  case atStart => exact ⟨0, m + 1, _, _, by omega, fun _ h => absurd h (by omega), by congr 1; omega, Hp9.out, Hs9.out.more (by omega)⟩
  case round =>
    obtain ⟨j, q, v, f, hjq, hvs, rfl, hpg, hsr⟩ := hrel
    have Hvs := Lib.hid hvs
    clear hvs
    obtain ⟨A, cc, rfl⟩ := own_sl hpg.row
    have Hpg := Lib.hid hpg
    have Hsr := Lib.hid hsr
    have hj17 : j ≤ M := by omega
    have Hjq := Lib.hid hjq
    obtain ⟨p0, p1, p2, p3, _⟩ := blk4 hpg.own
    obtain ⟨r0, r1, r2, r3, rz⟩ := blk4 hpg.res
    have y0 := rz 0
    have y1 := rz 1
    have y2 := rz 2
    have y3 := rz 3
    clear hsr rz
    by_cases hq : q = 0
    · subst hq
      have hj16 : j ≤ M := hj17
      have hj1 : 1 ≤ j := by omega
      obtain ⟨W, hW, e0, e1, e2, e3, hrow, hsw, hgw⟩ := hpg.done Hsr.out hgl (Nat.le_refl _)
      subst hW
      have He0 := Lib.hid e0
      have He1 := Lib.hid e1
      have He2 := Lib.hid e2
      have He3 := Lib.hid e3
      have Hfin := Lib.hid (show DrawnQ M w B gs (k + 250) bs (.returned (.agg #[.string s, .int .i64 a, .int .i64 b, .slice A j cc])) _ from ⟨s, a, b, _, j, f, rfl, pg_draw Hss.out Hab.out hj1 (Nat.le_trans hj16 hM) Hvs.out, hj1, hj16, hrow, hsw.more (by omega), hgw⟩)
      clear e0 e1 e2 e3 hrow hsw hgw hpg hjq
      go_wp2_with fail
      exact bodyPost_ret (v := .agg #[.string s, .int .i64 a, .int .i64 b, .slice A j cc]) (by simp [results, Tryd.results47, go_sem, He0.out, He1.out, He2.out, He3.out]) rfl Hfin.out
    · have hq1 : (0 : Int) < (q : Int) := by omega
      have hq9 : (q : Int) ≤ 50 := by omega
      clear hpg hjq
      go_upto_region 9 with (fail)
      obtain ⟨wo, hwo⟩ : ∃ x, x = wr := ⟨_, rfl⟩
      go_cut [11] (fun s11 wx => ∃ v : Int, s11 = .int .i64 v ∧ (-1000000 ≤ v ∧ v ≤ 1000000) ∧ wx = wr)
      case first =>
        obtain ⟨X1, hX1⟩ : ∃ z, e1 * (j : Int) = z := ⟨_, rfl⟩
        obtain ⟨X2, hX2⟩ : ∃ z, X1 * (j : Int) = z := ⟨_, rfl⟩
        obtain ⟨X3, hX3⟩ : ∃ z, X2 * (j : Int) = z := ⟨_, rfl⟩
        obtain ⟨Y1, hY1⟩ : ∃ z, c * (j : Int) = z := ⟨_, rfl⟩
        obtain ⟨Y2, hY2⟩ : ∃ z, Y1 * (j : Int) = z := ⟨_, rfl⟩
        obtain ⟨Z1, hZ1⟩ : ∃ z, d * (j : Int) = z := ⟨_, rfl⟩
        have hjM : j ≤ 50 := Nat.le_trans hj17 hM
        obtain ⟨⟨hc0, hc3⟩, ⟨hd0, hd4⟩, he0, he2⟩ := Hcd.out
        have bX1 := mul_bdA (c := e1) (j := j) (C := 2) (J := 50) (by omega) (by omega) hjM
        rw [hX1] at bX1
        have bX2 := mul_bdA (c := X1) (j := j) (C := 100) (J := 50) (by omega) (by omega) hjM
        rw [hX2] at bX2
        have bX3 := mul_bdA (c := X2) (j := j) (C := 5000) (J := 50) (by omega) (by omega) hjM
        rw [hX3] at bX3
        have bY1 := mul_bdA (c := c) (j := j) (C := 3) (J := 50) (by omega) (by omega) hjM
        rw [hY1] at bY1
        have bY2 := mul_bdA (c := Y1) (j := j) (C := 150) (J := 50) (by omega) (by omega) hjM
        rw [hY2] at bY2
        have bZ1 := mul_bdA (c := d) (j := j) (C := 4) (J := 50) (by omega) (by omega) hjM
        rw [hZ1] at bZ1
        have wX1 : IntKind.i64.wrap (e1 * (j : Int)) = X1 := by rw [hX1]; exact IntWalk.i64_in _ (by omega)
        have wX2 : IntKind.i64.wrap (X1 * (j : Int)) = X2 := by rw [hX2]; exact IntWalk.i64_in _ (by omega)
        have wX3 : IntKind.i64.wrap (X2 * (j : Int)) = X3 := by rw [hX3]; exact IntWalk.i64_in _ (by omega)
        have wY1 : IntKind.i64.wrap (c * (j : Int)) = Y1 := by rw [hY1]; exact IntWalk.i64_in _ (by omega)
        have wY2 : IntKind.i64.wrap (Y1 * (j : Int)) = Y2 := by rw [hY2]; exact IntWalk.i64_in _ (by omega)
        have wZ1 : IntKind.i64.wrap (d * (j : Int)) = Z1 := by rw [hZ1]; exact IntWalk.i64_in _ (by omega)
        obtain ⟨bX30, bX31⟩ := bX3
        obtain ⟨bY20, bY21⟩ := bY2
        obtain ⟨bZ10, bZ11⟩ := bZ1
        simp only [Nat.reduceMul] at bX30 bX31 bY20 bY21 bZ10 bZ11
        clear hX1 hX2 hX3 hY1 hY2 hZ1 bX1 bX2 bY1
        go_wp2_with fail
        go_meet
        exact ⟨_, rfl, by omega, rfl⟩
      case rest =>
        obtain ⟨y, rfl, ⟨hy0, hy1⟩, rfl⟩ := hcut
        clear hwo p0 p1 p2 p3 r0 r1 r2 r3 y0 y1 y2 y3
        have hmx : j + 1 ≤ maxLen := by simp [maxLen]; omega
        have hby : (j + 1) * 8 ≤ 140737488355328 := by omega
        go_wp2_with fail
        refine (one_any B gs (k + 14 + 4 * j) bs 12 _ Hsr.out (by omega)).mono ?_; rintro e w2 ⟨t, rfl, hs2, hg2⟩
        have Hp2 := Lib.hid (Hpg.out.pick hgl (Nat.le_refl _) hpp hg2)
        have Hs2 := Lib.hid hs2
        clear hs2 hg2
        cases t with
        | false =>
          obtain ⟨_, _, _, p3, _⟩ := blk4 Hp2.out.own
          go_wp2_with (at_builtin; refine wpList_apd 24 2 _ 1 8 Tryd.underlying24 infoD rfl (by omega) _ _ rfl rfl w.heap.size _ j _ rfl Hp2.out.row #[.int .i64 y] 1 1 rfl rfl (by simp [Value.oneCell']) hmx hby Hp2.out.gr.size ?_; intro v7 w7 hown7 hg7; obtain ⟨A7, c7, rfl⟩ := own_sl hown7; obtain ⟨k1, k2, k3⟩ := Hp2.out.grow hpp hzp hown7 hg7 (tab_snoc j f y); have Hk3 := Lib.hid k3; have Hs7 := Lib.hid ((Hs2.out.grown hg7 (fun z hz => by have := (Hp2.out.row.lt z hz).1; omega)).grown (grown_set w7 gp 3 (.slice A7 (j + 1) c7)) (fun z hz => by cases hz; omega)); clear hown7 hg7 k3)
          go_roundw
          case rel => exact ⟨j + 1, q - 1, _, _, by have := Hjq.out; omega, vs_snoc Hvs.out (isV_of (by omega) (by omega)), by congr 1; omega, Hk3.out, Hs7.out.more (by omega)⟩
          case measure => simp [intOf]; omega
        | true =>
          go_upto_region 11 with (fail)
          go_cut [11] (fun s11 wx => ∃ v : Int, s11 = .int .i64 v ∧ (-2000000 ≤ v ∧ v ≤ 2000000) ∧ PgAt gs w wx w.heap.size gp s a b (.slice A j cc) j f ∧ SrcAt wx B gs (k + 14 + 4 * j + 2 + 2) bs)
          case first =>
            go_wp2_with fail
            refine (pick_any B gs (k + 14 + 4 * j + 2) bs 5 _ Hs2.out (by omega)).mono ?_; rintro e w3 ⟨y5, rfl, ⟨hy50, hy51, _⟩, hs3, hg3⟩
            have hy52 := hy51 (by omega)
            clear hy51
            have Hf := Lib.hid (And.intro (Hp2.out.pick hgl (Nat.le_refl _) hpp hg3) hs3)
            clear hs3 hg3
            go_wp2_with fail
            go_meet
            exact ⟨_, rfl, by omega, Hf.out.1, Hf.out.2⟩
          case rest =>
            obtain ⟨y2, rfl, ⟨hz0, hz1⟩, hp3, hs3⟩ := hcut
            have Hp3 := Lib.hid hp3
            have Hs3 := Lib.hid hs3
            clear hp3 hs3
            obtain ⟨_, _, _, p3, _⟩ := blk4 Hp3.out.own
            go_wp2_with (at_builtin; refine wpList_apd 24 2 _ 1 8 Tryd.underlying24 infoD rfl (by omega) _ _ rfl rfl w.heap.size _ j _ rfl Hp3.out.row #[.int .i64 y2] 1 1 rfl rfl (by simp [Value.oneCell']) hmx hby Hp3.out.gr.size ?_; intro v7 w7 hown7 hg7; obtain ⟨A7, c7, rfl⟩ := own_sl hown7; obtain ⟨k1, k2, k3⟩ := Hp3.out.grow hpp hzp hown7 hg7 (tab_snoc j f y2); have Hk3 := Lib.hid k3; have Hs7 := Lib.hid ((Hs3.out.grown hg7 (fun z hz => by have := (Hp3.out.row.lt z hz).1; omega)).grown (grown_set w7 gp 3 (.slice A7 (j + 1) c7)) (fun z hz => by cases hz; omega)); clear hown7 hg7 k3)
            go_roundw
            case rel => exact ⟨j + 1, q - 1, _, _, by have := Hjq.out; omega, vs_snoc Hvs.out (isV_of (by omega) (by omega)), by congr 1; omega, Hk3.out, Hs7.out.more (by omega)⟩
            case measure => simp [intOf]; omega
end Go.Proofs.YtnhngccfbnnpoaaDoor
/- Draws: a row of the call's own that grows while numbers are drawn; a text is spoilt (l01Spoil). -/
namespace Go.Proofs.YtnhngccfbnnpoaaDoor
open Go.RowKit Go.Joins

/-- in the world w, reached from W: the source g has done at most k draws, v is a row of the call's own, and of what was there only the source has turned -/
structure DrR (W w : World) (B g k : Nat) (bs : List UInt8) (e : TypeId) (sz : Nat) (v : Value) (n : Nat) (cs : List Value) : Prop where
  lt : g < W.heap.size
  src : SrcAt w B g k bs
  row : w.ownsRow W.heap.size e sz v n cs
  gr : W.grownBy w (some g)
theorem DrR.draw {W w w' : World} {B g k k' : Nat} {bs : List UInt8} {e : TypeId} {sz n : Nat} {v : Value} {cs : List Value} (h : DrR W w B g k bs e sz v n cs) (hs : SrcAt w' B g k' bs) (hg : w.grownBy w' (some g)) : DrR W w' B g k' bs e sz v n cs :=
  ⟨h.lt, hs, h.row.kept hg (by
    cases hv : v.ownBlock with
    | none => exact .inl rfl
    | some x => exact .inr fun e => by have := (h.row.lt x hv).1; have := h.lt; injection e; omega), grown_trans h.gr hg⟩
theorem DrR.below {W w w' : World} {B g k : Nat} {bs : List UInt8} {e : TypeId} {sz n : Nat} {v : Value} {cs : List Value} (h : DrR W w B g k bs e sz v n cs) (hb : Below w.heap.size w w') : DrR W w' B g k bs e sz v n cs :=
  ⟨h.lt, h.src.below hb, own_below h.row hb, grown_below h.gr hb⟩
theorem DrR.more {W w : World} {B g k k' : Nat} {bs : List UInt8} {e : TypeId} {sz n : Nat} {v : Value} {cs : List Value} (h : DrR W w B g k bs e sz v n cs) (hk : k ≤ k') : DrR W w B g k' bs e sz v n cs :=
  ⟨h.lt, h.src.more hk, h.row, h.gr⟩
theorem grownBy_row {W w w' : World} {g : Nat} {ob : Option Nat} (h : W.grownBy w (some g)) (hg : w.grownBy w' ob) (ho : ∀ x, ob = some x → W.heap.size ≤ x) : W.grownBy w' (some g) :=
  ⟨hg.os.trans h.os, hg.tape.trans h.tape, hg.output.trans h.output, Nat.le_trans h.size hg.size, fun i hi hne => (hg.block i (Nat.lt_of_lt_of_le hi h.size) (fun e => by have := ho i e.symm; omega)).trans (h.block i hi hne)⟩
theorem DrR.app {W w w' : World} {B g k : Nat} {bs : List UInt8} {e : TypeId} {sz n n' : Nat} {v v' : Value} {cs cs' : List Value} (h : DrR W w B g k bs e sz v n cs) (hr : w'.ownsRow W.heap.size e sz v' n' cs') (hg : w.grownBy w' v.ownBlock) : DrR W w' B g k bs e sz v' n' cs' :=
  ⟨h.lt, h.src.grown hg (fun x hx => Nat.lt_of_lt_of_le h.lt (h.row.lt x hx).1), hr, grownBy_row h.gr hg (fun x hx => (h.row.lt x hx).1)⟩
theorem DrR.drewN {W w : World} {B g k : Nat} {bs : List UInt8} {e : TypeId} {sz n : Nat} {v : Value} {cs : List Value} (h : DrR W w B g k bs e sz v n cs) (m : Nat) : DrR W (w.drewN m) B g k bs e sz v n cs :=
  ⟨h.lt, h.src.drewN m, h.row.drewN m, grown_below h.gr (below_drewN (Below.refl _ _) m)⟩
theorem DrR.size {W w : World} {B g k : Nat} {bs : List UInt8} {e : TypeId} {sz n : Nat} {v : Value} {cs : List Value} (h : DrR W w B g k bs e sz v n cs) : W.heap.size ≤ w.heap.size := h.gr.size
theorem DrR.nil {W : World} {B g k : Nat} {bs : List UInt8} (h : SrcAt W B g k bs) (e : TypeId) (sz : Nat) : DrR W W B g k bs e sz (.slice none 0 0) 0 [] :=
  ⟨h.lt, h, ⟨by simp, .inl ⟨rfl, rfl⟩⟩, ⟨rfl, rfl, rfl, Nat.le_refl _, fun _ _ _ => rfl⟩⟩
theorem DrR.made {W : World} {B g k : Nat} {bs : List UInt8} (h : SrcAt W B g k bs) (e : TypeId) (sz : Nat) : DrR W (W.alloc (.cells #[] e)) B g k bs e sz (.slice (some ⟨W.heap.size, 0, none⟩) 0 0) 0 [] :=
  have hb := (Below.refl W.heap.size W).alloc (Nat.le_refl _) (.cells #[] e)
  ⟨h.lt, h.below hb, World.ownsRow_made (base := W.heap.size) (e := e) (size := sz) W #[] 0 (Nat.le_refl _) (by simp [maxLen]) (by simp), grown_of_below hb _⟩
/-- what a later call sees: the row's owner has gone on -/
theorem DrR.from {W W' w : World} {B g k : Nat} {bs : List UInt8} {e : TypeId} {sz n : Nat} {v : Value} {cs : List Value} (h : DrR W' w B g k bs e sz v n cs) (hg : W.grownBy W' (some g)) (hl : g < W.heap.size) : DrR W w B g k bs e sz v n cs :=
  ⟨hl, h.src, ownsRow_le h.row hg.size, grown_trans hg h.gr⟩

set_option maxRecDepth 100000 in
set_option maxHeartbeats 400000 in
theorem text_in (B g k b m : Nat) (l : List ByteArray) (bs : List UInt8) (w : World) (h : SrcAt w B g k bs) (hk : k < 4611686018427387800) (hm : l.length = m) (hm2 : 2 ≤ m) (hm3 : m ≤ 200) (hb : b ≠ g) (hbl : b < w.heap.size)
    (hc : ∀ i (hi : i < l.length), w.cell? ⟨b, i, none⟩ = some (.string l[i])) :
    Calls Tryd.prog 58 #[.pointer (some ⟨g, 0, none⟩), .slice (some ⟨b, 0, none⟩) m m] w fun e w' => ∃ z, z ∈ l ∧ e = .returned (.string z) ∧ SrcAt w' B g (k + 2) bs ∧ w.grownBy w' (some g) := by
  have H := Lib.hid h; clear h
  have Hc := Lib.hid hc; clear hc
  have hm4 : (m : Int) ≤ 200 := by omega
  go_enter Tryd.func58, Tryd.ntmps58
  go_wp2_with fail
  refine (pick_any B g k bs m _ H.out (by omega)).mono ?_; rintro e w1 ⟨x, rfl, ⟨hx0, hx1, _⟩, hs1, hg1⟩
  have Hs1 := Lib.hid hs1; clear hs1
  obtain ⟨i, rfl⟩ : ∃ i : Nat, x = i := ⟨x.toNat, by omega⟩
  have hx2 := hx1 (by omega)
  have hi : i < l.length := by omega
  have hcell := (World.cell?_of_block (a := ⟨b, i, none⟩) (hg1.block b hbl (fun e => hb (by injection e)))).trans (Hc.out i hi)
  have hmem := Lib.hid (List.getElem_mem hi)
  generalize l[i] = z at *
  clear hx1
  go_wp2_with fail
  go_ret
  exact ⟨z, hmem.out, rfl, Hs1.out, hg1⟩
theorem alloc_strs (w : World) (l : List ByteArray) (t : TypeId) : ∀ i (hi : i < l.length), (w.alloc (.cells (l.map Value.string).toArray t)).cell? ⟨w.heap.size, i, none⟩ = some (.string l[i]) := fun i hi => by
  have := new_cells w (l.map Value.string).toArray t i (.string l[i]) (by simp [hi])
  rwa [show (⟨w.heap.size, 0, none⟩ : Addr).add i = ⟨w.heap.size, i, none⟩ by unfold Addr.add; split <;> simp_all] at this
/-- .. from texts just laid out, in a region that draws its order -/
theorem text_new (B g k m : Nat) (l : List ByteArray) (bs : List UInt8) (w : World) (h : SrcAt w B g k bs) (hk : k < 4611686018427387800) (hm : l.length = m) (hm2 : 2 ≤ m) (hm3 : m ≤ 200) :
    Calls Tryd.prog 58 #[.pointer (some ⟨g, 0, none⟩), .slice (some ⟨w.heap.size, 0, none⟩) m m] (w.alloc (.cells (l.map Value.string).toArray 9)) fun e w' => ∃ z, z ∈ l ∧ e = .returned (.string z) ∧ SrcAt w' B g (k + 2) bs ∧ w.grownBy w' (some g) := by
  have hlt := h.lt
  refine (text_in B g k w.heap.size m l bs _ (h.below ((Below.refl w.heap.size w).alloc (Nat.le_refl _) _)) hk hm hm2 hm3 (by omega) (by simp) (alloc_strs w l _)).mono ?_
  rintro e w' ⟨z, h1, h2, h3, h4⟩
  exact ⟨z, h1, h2, h3, grown_from_alloc h4⟩
theorem text_newd (B g k m : Nat) (l : List ByteArray) (bs : List UInt8) (w : World) (h : SrcAt w B g k bs) (hk : k < 4611686018427387800) (hm : l.length = m) (hm2 : 2 ≤ m) (hm3 : m ≤ 200) :
    Calls Tryd.prog 58 #[.pointer (some ⟨g, 0, none⟩), .slice (some ⟨w.heap.size, 0, none⟩) m m] (w.alloc (.cells (l.map Value.string).toArray 9)).drew fun e w' => ∃ z, z ∈ l ∧ e = .returned (.string z) ∧ SrcAt w' B g (k + 2) bs ∧ w.grownBy w' (some g) := by
  have hlt := h.lt
  refine (text_in B g k w.heap.size m l bs _ (SrcAt.drew (h.below ((Below.refl w.heap.size w).alloc (Nat.le_refl _) _))) hk hm hm2 hm3 (by omega) (by simp) (fun i hi => alloc_strs w l 9 i hi)).mono ?_
  rintro e w' ⟨z, h1, h2, h3, h4⟩
  exact ⟨z, h1, h2, h3, grown_from_alloc (grown_undrew h4)⟩

theorem ne_some0 {s : ByteArray} (h : 0 < s.size) : s.toList.isEmpty = false := by
  rw [ByteArray.toList_eq, List.isEmpty_eq_false_iff]
  intro e
  have h1 : s.data.toList.length = s.size := by simp
  rw [e] at h1
  simp at h1; omega
theorem ne_none0 {s : ByteArray} (h : s.size = 0) : s.toList.isEmpty = true := by
  rw [ByteArray.toList_eq, List.isEmpty_iff]
  exact List.eq_nil_of_length_eq_zero (by simpa using h)
def spoilL : List ByteArray := [⟨#[32]⟩, ⟨#[48]⟩, ⟨#[45]⟩, ⟨#[120]⟩, ⟨#[49]⟩, ⟨#[57]⟩, ⟨#[46]⟩]
theorem spoilL_one : ∀ z ∈ spoilL, z.size = 1 := by decide
def RetSp (w : World) (B g k : Nat) (bs : List UInt8) (n : Nat) (e : Ending) (w' : World) : Prop := ∃ z : ByteArray, e = .returned (.string z) ∧ z.size ≤ n ∧ SrcAt w' B g k bs ∧ w.grownBy w' (some g)

set_option maxRecDepth 100000 in
set_option maxHeartbeats 1600000 in
theorem spoil_any (B g k : Nat) (bs : List UInt8) (t : ByteArray) (w : World) (h : SrcAt w B g k bs) (hk : k < 4611686018427380000) (ht : t.size ≤ 1073741824) :
    Calls Tryd.prog 66 #[.pointer (some ⟨g, 0, none⟩), .string t] w (RetSp w B g (k + 6) bs (t.size + 1)) := by
  have H := Lib.hid h; clear h
  go_enter Tryd.func66, Tryd.ntmps66
  go_wp2_with fail
  refine (pick_any B g k bs 5 _ H.out (by omega)).mono ?_; rintro e w1 ⟨x, rfl, ⟨hx0, hx1, _⟩, hs1, hg1⟩
  have Hs1 := Lib.hid hs1
  have Hg1 := Lib.hid hg1
  clear hs1 hg1 hx1 H
  by_cases e0 : x = 0
  · subst e0
    go_wp2_with fail
    refine (pick_any B g (k + 2) bs _ _ Hs1.out (by omega)).mono ?_; rintro e w2 ⟨y, rfl, ⟨hy0, hy1, hy2⟩, hs2, hg2⟩
    have Hs2 := Lib.hid hs2
    have Hg2 := Lib.hid (grown_trans Hg1.out hg2)
    obtain ⟨i, rfl⟩ : ∃ i : Nat, y = i := ⟨y.toNat, by omega⟩
    have hi : (i : Int) ≤ (t.size : Int) := by
      by_cases h1 : t.size = 0
      · have := hy2 (by omega); omega
      · have := hy1 (by omega); omega
    have hi2 : i ≤ t.size := by omega
    have hp1 : (t.extract 0 i).size = i := by rw [ByteArray.size_extract]; omega
    have hp2 : (t.extract i t.size).size = t.size - i := by rw [ByteArray.size_extract]; omega
    have Hp1 := Lib.hid hp1
    have Hp2 := Lib.hid hp2
    have hq1 : (t.extract 0 i).size ≤ 1073741824 := by omega
    have hq2 : (t.extract i t.size).size ≤ 1073741824 := by omega
    clear hs2 hg2 hy1 hy2 Hs1 Hg1 hp1 hp2
    go_wp2_with fail
    refine wp_region_noPanic ?_
    refine wp_region_L [] (fun _ => True) (by kernel_rfl) (trivial) (fun hHeld => ?_)
    refine take_F (i := 0) (d := some 16) (v := ?_) (by kernel_rfl) (by kernel_rfl) rfl rfl (by kernel_rfl) (by kernel_rfl) (by kernel_rfl) (fun _ _ _ h => h) (Or.inl ⟨by rfl, ?_⟩) (by assumption) ?_
    rotate_left
    · (intro w hSw; (try dsimp only at hSw); go_simp; (try rw [if_neg (by omega)]); (try (with_reducible rfl)))
    simp only [Act.put, List.setIfInBounds_toArray, List.set_cons_zero, List.set_cons_succ]
    refine take_F (i := 1) (d := some 17) (v := ?_) (by kernel_rfl) (by kernel_rfl) rfl rfl (by kernel_rfl) (by kernel_rfl) (by kernel_rfl) (fun _ _ _ h => h) (Or.inl ⟨by rfl, ?_⟩) (by assumption) ?_
    rotate_left
    · (intro w hSw; (try dsimp only at hSw); go_simp; (try rw [if_neg (by omega)]); (try (with_reducible rfl)))
    simp only [Act.put, List.setIfInBounds_toArray, List.set_cons_zero, List.set_cons_succ]
    refine take_F (i := 2) (d := some 18) (v := ?_) (by kernel_rfl) (by kernel_rfl) rfl rfl (by kernel_rfl) (by kernel_rfl) (by kernel_rfl) (fun _ _ _ h => h) (Or.inl ⟨by rfl, ?_⟩) (by assumption) ?_
    rotate_left
    · (intro w hSw; (try dsimp only at hSw); go_simp; (try rw [if_neg (by omega)]); (try (with_reducible rfl)))
    simp only [Act.put, List.setIfInBounds_toArray, List.set_cons_zero, List.set_cons_succ]
    refine take_F (i := 3) (d := some 19) (v := ?_) (by kernel_rfl) (by kernel_rfl) rfl rfl (by kernel_rfl) (by kernel_rfl) (by kernel_rfl) (fun _ _ _ h => h) (Or.inl ⟨by rfl, ?_⟩) (by assumption) ?_
    rotate_left
    · (intro w hSw; (try dsimp only at hSw); go_simp; (try rw [if_neg (by omega)]); (try (with_reducible rfl)))
    simp only [Act.put, List.setIfInBounds_toArray, List.set_cons_zero, List.set_cons_succ]
    refine take_F (i := 7) (d := some 23) (v := ?_) (by kernel_rfl) (by kernel_rfl) rfl rfl (by kernel_rfl) (by kernel_rfl) (by kernel_rfl) (fun _ _ _ h => h) (Or.inl ⟨by rfl, ?_⟩) (by assumption) ?_
    rotate_left
    · (intro w hSw; (try dsimp only at hSw); go_simp; (try rw [if_neg (by omega)]); (try (with_reducible rfl)))
    simp only [Act.put, List.setIfInBounds_toArray, List.set_cons_zero, List.set_cons_succ]
    refine take_F (i := 8) (d := some 24) (v := ?_) (by kernel_rfl) (by kernel_rfl) rfl rfl (by kernel_rfl) (by kernel_rfl) (by kernel_rfl) (fun _ _ _ h => h) (Or.inl ⟨by rfl, ?_⟩) (by assumption) ?_
    rotate_left
    · (intro w hSw; (try dsimp only at hSw); go_simp; (try rw [if_neg (by omega)]); (try (with_reducible rfl)))
    simp only [Act.put, List.setIfInBounds_toArray, List.set_cons_zero, List.set_cons_succ]
    refine take_F (i := 9) (d := some 25) (v := ?_) (by kernel_rfl) (by kernel_rfl) rfl rfl (by kernel_rfl) (by kernel_rfl) (by kernel_rfl) (fun _ _ _ h => h) (Or.inl ⟨by rfl, ?_⟩) (by assumption) ?_
    rotate_left
    · (intro w hSw; (try dsimp only at hSw); go_simp; (try rw [if_neg (by omega)]); (try (with_reducible rfl)))
    simp only [Act.put, List.setIfInBounds_toArray, List.set_cons_zero, List.set_cons_succ]
    refine call_L (i := 4) (d := (some 20)) rfl rfl (by kernel_rfl) (fun Kq hKq => ?_)
    go_simp
    refine hKq.out _ _ (trivial) (fun hHeld => ?_)
    clear hKq Kq
    (try simp only [Act.put, List.setIfInBounds_toArray, List.set_cons_zero, List.set_cons_succ])
    refine call_L (i := 5) (d := (some 21)) rfl rfl (by kernel_rfl) (fun Kq hKq => ?_)
    go_simp
    go_at_call 58
    refine (text_newd B g _ 7 spoilL bs w2 Hs2.out (by omega) rfl (by omega) (by omega)).mono ?_; rintro e w5 ⟨z, hz, rfl, hs5, hg5⟩
    have hz1 := spoilL_one z hz
    have Hz := Lib.hid hz1
    have hzl : z.size ≤ 1 := by omega
    have Hs5 := Lib.hid hs5
    have Hg5 := Lib.hid (grown_trans Hg2.out hg5)
    have hz3 : (t.extract 0 i ++ z).size ≤ 1073741825 := by rw [ByteArray.size_append]; omega
    clear hz hz1 hs5 hg5
    (try go_wp2_with fail)
    refine hKq.out _ _ (trivial) (fun hHeld => ?_)
    clear hKq Kq
    (try simp only [Act.put, List.setIfInBounds_toArray, List.set_cons_zero, List.set_cons_succ])
    refine take_F (i := 6) (d := some 22) (v := ?_) (by kernel_rfl) (by kernel_rfl) rfl rfl (by kernel_rfl) (by kernel_rfl) (by kernel_rfl) (fun _ _ _ h => h) (Or.inl ⟨by rfl, ?_⟩) (by assumption) ?_
    rotate_left
    · (intro w hSw; (try dsimp only at hSw); go_simp; (try rw [if_neg (by omega)]); (try (with_reducible rfl)))
    simp only [Act.put, List.setIfInBounds_toArray, List.set_cons_zero, List.set_cons_succ]
    refine take_F (i := 10) (d := some 26) (v := ?_) (by kernel_rfl) (by kernel_rfl) rfl rfl (by kernel_rfl) (by kernel_rfl) (by kernel_rfl) (fun _ _ _ h => h) (Or.inl ⟨by rfl, ?_⟩) (by assumption) ?_
    rotate_left
    · (intro w hSw; (try dsimp only at hSw); go_simp; (try rw [if_neg (by omega)]); (try (with_reducible rfl)))
    simp only [Act.put, List.setIfInBounds_toArray, List.set_cons_zero, List.set_cons_succ]
    refine take_F (i := 11) (d := some 1) (v := ?_) (by kernel_rfl) (by kernel_rfl) rfl rfl (by kernel_rfl) (by kernel_rfl) (by kernel_rfl) (fun _ _ _ h => h) (Or.inl ⟨by rfl, ?_⟩) (by assumption) ?_
    rotate_left
    · (intro w hSw; (try dsimp only at hSw); go_simp; (try rw [if_neg (by omega)]); (try (with_reducible rfl)))
    simp only [Act.put, List.setIfInBounds_toArray, List.set_cons_zero, List.set_cons_succ]
    refine done_L (by kernel_rfl) ?_ _
    refine NoPanic.normal ?_
    go_wp2_with fail
    go_ret
    exact ⟨_, rfl, by rw [ByteArray.size_append, ByteArray.size_append, Hp1.out, Hp2.out]; omega, Hs5.out.more (by omega), Hg5.out⟩
  · have hb0 : (x == 0) = false := by simpa using e0
    by_cases e1 : x = 1
    · subst e1
      by_cases ht0 : t.size = 0
      · have hn := ne_none0 ht0
        go_wp2_with fail
        go_ret
        exact ⟨t, rfl, by omega, Hs1.out.more (by omega), Hg1.out⟩
      · have hn := ne_some0 (s := t) (by omega)
        go_wp2_with fail
        refine (pick_any B g (k + 2) bs _ _ Hs1.out (by omega)).mono ?_; rintro e w2 ⟨y, rfl, ⟨hy0, hy1, hy2⟩, hs2, hg2⟩
        have Hs2 := Lib.hid hs2
        have Hg2 := Lib.hid (grown_trans Hg1.out hg2)
        obtain ⟨i, rfl⟩ : ∃ i : Nat, y = i := ⟨y.toNat, by omega⟩
        have hi : (i : Int) + 1 ≤ (t.size : Int) := by
          by_cases h1 : t.size = 1
          · have := hy2 (by omega); omega
          · have := hy1 (by omega); omega
        have hi3 : (i : Int) ≤ (t.size : Int) := by omega
        have hp1 : (t.extract 0 i).size = i := by rw [ByteArray.size_extract]; omega
        have hp2 : (t.extract (i + 1) t.size).size = t.size - (i + 1) := by rw [ByteArray.size_extract]; omega
        have Hp1 := Lib.hid hp1
        have Hp2 := Lib.hid hp2
        have hq1 : (t.extract 0 i).size ≤ 1073741824 := by omega
        have hq2 : (t.extract (i + 1) t.size).size ≤ 1073741824 := by omega
        have hw : IntKind.i64.wrap ((i : Int) + 1) = (i : Int) + 1 := IntWalk.i64_in _ (by omega)
        have hw0 : (0 : Int) ≤ (i : Int) + 1 := by omega
        have hw1 : ((i : Int) + 1).toNat = i + 1 := by omega
        clear hs2 hg2 hy1 hy2 Hs1 Hg1 hp1 hp2
        go_wp2_with fail
        go_quiet (fail)
        go_wp2_with fail
        go_ret
        exact ⟨_, rfl, by rw [ByteArray.size_append, Hp1.out, Hp2.out]; omega, SrcAt.drewN (Hs2.out.more (by omega)) _, grown_below Hg2.out (below_drewN (Below.refl _ _) _)⟩
    · have hb1 : (x == 1) = false := by simpa using e1
      go_wp2_with fail
      go_ret
      exact ⟨t, rfl, by omega, Hs1.out.more (by omega), Hg1.out⟩
end Go.Proofs.YtnhngccfbnnpoaaDoor
/- Printed pages, part 14: printed lines are drawn (gen_pa14.py). -/
namespace Go.Proofs.YtnhngccfbnnpoaaDoor
open Go.RowKit Go.Joins

theorem own_takeA {w : World} {base n b c sz i : Nat} {e : TypeId} {xs : List Value} (h : w.ownsRow base e sz (.slice (some ⟨b, 0, none⟩) n c) n xs) (hi : i ≤ n) : w.ownsRow base e sz (.slice (some ⟨b, 0, none⟩) i c) i (xs.take (i * sz)) := by
  have hl := h.1
  rcases h.2 with ⟨h', _⟩ | ⟨g', cap', cur, h', hb, hg, hnc, hcm, hcs, htake⟩
  · simp at h'
  · simp only [Value.slice.injEq, Option.some.injEq, Addr.mk.injEq, and_true, true_and] at h'
    obtain ⟨rfl, rfl⟩ := h'
    have hm : i * sz ≤ n * sz := Nat.mul_le_mul_right _ hi
    refine ⟨by rw [List.length_take, hl]; omega, .inr ⟨b, c, cur, rfl, hb, hg, Nat.le_trans hi hnc, hcm, hcs, ?_⟩⟩
    rw [← htake, List.take_take, Nat.min_eq_left hm]
/-- a list of texts that is drawn -/
structure DrTA (W w : World) (B g k : Nat) (bs : List UInt8) (v : Value) (zs : List ByteArray) (L S : Nat) : Prop where
  dr : DrR W w B g k bs 9 1 v zs.length (zs.map Value.string)
  len : zs.length ≤ L
  sz : ∀ z ∈ zs, z.size ≤ S
  nn : ∃ b c, v = .slice (some ⟨b, 0, none⟩) zs.length c
theorem DrTA.draw {W w w' : World} {B g k k' L S : Nat} {bs : List UInt8} {v : Value} {zs : List ByteArray} (h : DrTA W w B g k bs v zs L S) (hs : SrcAt w' B g k' bs) (hg : w.grownBy w' (some g)) : DrTA W w' B g k' bs v zs L S := ⟨h.dr.draw hs hg, h.len, h.sz, h.nn⟩
theorem DrTA.below {W w w' : World} {B g k L S : Nat} {bs : List UInt8} {v : Value} {zs : List ByteArray} (h : DrTA W w B g k bs v zs L S) (hb : Below w.heap.size w w') : DrTA W w' B g k bs v zs L S := ⟨h.dr.below hb, h.len, h.sz, h.nn⟩
theorem DrTA.more {W w : World} {B g k k' L L' S S' : Nat} {bs : List UInt8} {v : Value} {zs : List ByteArray} (h : DrTA W w B g k bs v zs L S) (hk : k ≤ k') (hL : L ≤ L') (hS : S ≤ S') : DrTA W w B g k' bs v zs L' S' := ⟨h.dr.more hk, Nat.le_trans h.len hL, fun z hz => Nat.le_trans (h.sz z hz) hS, h.nn⟩
theorem DrTA.cellAt {W w : World} {B g k L S b c : Nat} {bs : List UInt8} {zs : List ByteArray} (h : DrTA W w B g k bs (.slice (some ⟨b, 0, none⟩) zs.length c) zs L S) (i : Nat) (hi : i < zs.length) :
    w.cell? ⟨b, i, none⟩ = some (.string zs[i]) ∧ w.frozen? ⟨b, i, none⟩ = false := by
  refine ⟨(h.dr.row.cellAt i (by omega)).trans ?_, h.dr.row.frozenAt _⟩
  rw [List.getElem?_map, List.getElem?_eq_getElem hi]; rfl
theorem DrTA.put {W w : World} {B g k L S b c : Nat} {bs : List UInt8} {zs : List ByteArray} (h : DrTA W w B g k bs (.slice (some ⟨b, 0, none⟩) zs.length c) zs L S) (i : Nat) (z : ByteArray) (hz : z.size ≤ S) :
    ∃ zs', zs'.length = zs.length ∧ DrTA W (w.setCell ⟨b, i, none⟩ (.string z)) B g k bs (.slice (some ⟨b, 0, none⟩) zs.length c) zs' L S := by
  obtain ⟨h1, h2⟩ := h.dr.row.stored i (.string z)
  rw [← List.map_set] at h1
  refine ⟨zs.set i z, List.length_set, ⟨h.dr.app (by rw [List.length_set]; exact h1) h2, by rw [List.length_set]; exact h.len, fun x hx => ?_, ⟨b, c, by rw [List.length_set]⟩⟩⟩
  rcases List.mem_or_eq_of_mem_set hx with hx | rfl
  · exact h.sz x hx
  · exact hz
theorem DrTA.cut {W w : World} {B g k L S b c : Nat} {bs : List UInt8} {zs : List ByteArray} (h : DrTA W w B g k bs (.slice (some ⟨b, 0, none⟩) zs.length c) zs L S) (i : Nat) (hi : i ≤ zs.length) :
    ∃ zs', zs'.length = i ∧ DrTA W w B g k bs (.slice (some ⟨b, 0, none⟩) i c) zs' L S := by
  have h1 := own_takeA h.dr.row hi
  rw [Nat.mul_one, ← List.map_take] at h1
  have hm : (zs.take i).length = i := by rw [List.length_take]; omega
  exact ⟨zs.take i, hm, ⟨⟨h.dr.lt, h.dr.src, by rw [hm]; exact h1, h.dr.gr⟩, by rw [hm]; have := h.len; omega, fun x hx => h.sz x (List.mem_of_mem_take hx), ⟨b, c, by rw [hm]⟩⟩⟩
def RetTxA (w : World) (B g k : Nat) (bs : List UInt8) (L S : Nat) (e : Ending) (w' : World) : Prop := ∃ v zs, e = .returned v ∧ DrTA w w' B g k bs v zs L S
theorem RetTxA.of {w w' : World} {B g k n L L' S S' : Nat} {bs : List UInt8} {v : Value} {zs : List ByteArray} {e : Ending} (h : DrTA w w' B g k bs v zs L S) (he : e = .returned v) (hk : k ≤ n) (hL : L ≤ L') (hS : S ≤ S') : RetTxA w B g n bs L' S' e w' := ⟨v, zs, he, h.more hk hL hS⟩
theorem DrTA.app {W w w1 : World} {B g k L S c : Nat} {bs : List UInt8} {zs : List ByteArray} {b : Nat} {z : ByteArray} {v : Value} (h : DrTA W w B g k bs (.slice (some ⟨b, 0, none⟩) zs.length c) zs L S) (hz : z.size ≤ S) (hg : w.grownBy w1 (some b))
    (hr : w1.ownsRow W.heap.size 9 1 v (zs.length + 1) (zs.map Value.string ++ (#[Value.string z] : Array Value).toList)) : ∃ b' c', v = .slice (some ⟨b', 0, none⟩) (zs.length + 1) c' ∧ DrTA W w1 B g k bs v (zs ++ [z]) (L + 1) S := by
  obtain ⟨b', c', hv, _⟩ := own_posC hr (by omega)
  refine ⟨b', c', hv, ⟨h.dr.app (by rw [List.length_append, List.map_append]; exact hr) hg, by rw [List.length_append]; have := h.len; simp; omega, fun x hx => ?_, ⟨b', c', by rw [List.length_append]; exact hv⟩⟩⟩
  rcases List.mem_append.1 hx with hx | hx
  · exact h.sz x hx
  · rw [List.mem_singleton.1 hx]; exact hz
theorem isNm_size {s : ByteArray} (h : isNm s.data.toList = true) : s.size ≤ 12 := by
  rcases Nat.lt_or_ge 12 s.data.toList.length with h1 | h1
  · rw [isNm_long _ h1] at h; cases h
  · simpa using h1
theorem page_sizes {s : ByteArray} {a b : Int} {n : Nat} {f : Nat → Int} (h : pgOk s.data.toList a b n f = true) : ∀ z ∈ pageL s a b n f, z.size ≤ 100 := by
  obtain ⟨n1, n60, a0, b0, vs, nm, hd⟩ := pgF h
  have hs := isNm_size nm
  intro z hz
  unfold pageL at hz
  rcases List.mem_cons.1 hz with rfl | hz
  · exact Nat.le_trans (headB_size (by omega) (by omega) (by omega)) (by omega)
  · rcases List.mem_append.1 hz with hz | hz
    · unfold rowsB at hz
      obtain ⟨i, hi, rfl⟩ := List.mem_map.1 hz
      have hi := List.mem_range.1 hi
      have := arg_bd hi n60 b0
      exact Nat.le_trans (rowB_size (by unfold argA; omega) (vs i hi)) (by omega)
    · rw [List.mem_singleton.1 hz]
      exact Nat.le_trans (footB_size f n60) (by omega)
def headsL : List ByteArray := [⟨#[115, 113, 117, 97, 114, 101, 115, 32, 48, 32, 49, 32, 54, 49]⟩, ⟨#[115, 113, 117, 97, 114, 101, 115, 32, 48, 32, 49, 32, 54, 48]⟩, ⟨#[115, 113, 117, 97, 114, 101, 115, 32, 48, 32, 48, 32, 49]⟩, ⟨#[115, 113, 117, 97, 114, 101, 115, 32, 49, 48, 48, 48, 48, 48, 48, 32, 49, 32, 50]⟩, ⟨#[115, 113, 117, 97, 114, 101, 115, 32, 49, 48, 48, 48, 48, 48, 48, 32, 49, 32, 49]⟩]
theorem headsL_sz : ∀ z ∈ headsL, z.size ≤ 100 := by decide
set_option maxRecDepth 100000 in
set_option maxHeartbeats 3200000 in
theorem l18Printed_any (B g k : Nat) (bs : List UInt8) (w : World) (hs : SrcAt w B g k bs) (hk : k + 300 ≤ 4611686018427380000) :
    Calls Tryd.prog 38 #[.pointer (some ⟨g, 0, none⟩)] w (RetTxA w B g (k + 300) bs 20 110) := by
  have H := Lib.hid hs
  have hlt := hs.lt
  clear hs
  go_enter Tryd.func38, Tryd.ntmps38
  go_wp2_with fail
  refine (l18DrawM_c 8 (by omega) (by omega) B g k bs _ H.out (by omega)).mono ?_; rintro e w1 ⟨s, a, b, v, n, f, rfl, hok, hn1, hn8, ho1, hs1, hg1⟩
  obtain ⟨A1, c1, rfl⟩ := own_sl ho1
  have hba := (Below.refl w1.heap.size w1).alloc (Nat.le_refl _) (.cells #[.string s, .int .i64 a, .int .i64 b, .slice A1 n c1] 26)
  obtain ⟨f0, f1, f2, f3, _⟩ := blk4 (heap_alloc_new w1 (.cells #[.string s, .int .i64 a, .int .i64 b, .slice A1 n c1] 26))
  have HL := Lib.hid (l18Lines_c w1.heap.size w1.heap.size s a b A1 n c1 f _ (by have := isNm_size (pgF hok).nm; omega) (by simp) f0 f1 f2 f3 ((Rd.of_own ho1).below hba) (by simp) hok)
  have HS1 := Lib.hid (hs1.below hba)
  have HG1 := Lib.hid (grown_below hg1 hba)
  have Hsz := Lib.hid (page_sizes hok)
  have HPl := Lib.hid (pageL_len s a b n f)
  clear hba f0 f1 f2 f3 ho1 hs1 hg1 hok
  go_upto_region 2 with (fail)
  generalize w1.alloc (.cells #[.string s, .int .i64 a, .int .i64 b, .slice A1 n c1] 26) = w2 at *
  go_wp2_with fail
  refine HL.out.mono ?_; rintro e w3 ⟨v3, rfl, ho3, hb3⟩
  obtain ⟨b3, c3, rfl, hc3⟩ := own_posC ho3 (by omega)
  obtain ⟨zs, hzs⟩ : ∃ zs, pageL s a b n f = zs := ⟨_, rfl⟩
  rw [hzs] at Hsz HPl ho3
  have hzl : zs.length = n + 2 := HPl.out
  rw [← hzl] at ho3 ⊢
  have HT := Lib.hid (show DrTA w w3 B g (k + 250) bs (.slice (some ⟨b3, 0, none⟩) zs.length c3) zs 11 100 from ⟨⟨hlt, HS1.out.below hb3, ownsRow_le ho3 HG1.out.size, grown_below HG1.out hb3⟩, by omega, Hsz.out, ⟨b3, c3, rfl⟩⟩)
  have hz1 : 2 ≤ zs.length := by omega
  have hz11 : zs.length ≤ 10 := by omega
  clear ho3 hb3 HL HS1 HG1 Hsz HPl hzs hzl hn1 hn8 hc3
  go_wp2_with fail
  refine (pick_any B g _ bs _ _ HT.out.dr.src (by omega)).mono ?_; rintro e w4 ⟨x, rfl, ⟨hx0, hx1, hx2⟩, hs2, hg2⟩
  obtain ⟨i, rfl⟩ : ∃ i : Nat, x = i := ⟨x.toNat, by omega⟩
  have hi : i < zs.length := by have := hx1 (by omega); omega
  have hi' : (i : Int) < (zs.length : Int) := by omega
  have HD2 := Lib.hid (HT.out.draw hs2 hg2)
  clear hs2 hg2 hx1 hx2 HT
  go_wp2_with fail
  refine (pick_any B g _ bs 8 _ HD2.out.dr.src (by omega)).mono ?_; rintro e w5 ⟨x, rfl, ⟨hx0, hx1, hx2⟩, hs3, hg3⟩
  have HD3 := Lib.hid (HD2.out.draw hs3 hg3)
  clear hs3 hg3 hx1 hx2 HD2
  by_cases e01 : x = 0 ∨ x = 1
  · obtain ⟨p0, _⟩ := HD3.out.cellAt i hi
    have hsz := HD3.out.sz zs[i] (List.getElem_mem hi)
    generalize zs[i] = z0 at *
    obtain ⟨wz, hwz⟩ : ∃ z, w5 = z := ⟨_, rfl⟩
    have hcase : (x == 0) = true ∨ ((x == 0) = false ∧ (x == 1) = true) := by
      rcases e01 with rfl | rfl
      · exact .inl rfl
      · exact .inr ⟨rfl, rfl⟩
    clear hwz
    rcases hcase with e0 | ⟨e0, e1⟩
    · go_wp2_with fail
      refine (spoil_any B g _ bs z0 _ HD3.out.dr.src (by omega) (by omega)).mono ?_; rintro e w6 ⟨z, rfl, hz, hs4, hg4⟩
      have HD4 := Lib.hid (HD3.out.draw hs4 hg4)
      obtain ⟨p0, q0⟩ := HD4.out.cellAt i hi
      obtain ⟨zs', hl', hd5⟩ := (HD4.out.more (Nat.le_refl _) (Nat.le_refl _) (S' := 101) (by omega)).put i z (by omega)
      have HD5 := Lib.hid hd5
      clear hs4 hg4 HD3 HD4 hl' hd5
      go_wp2_with fail
      go_ret
      exact RetTxA.of HD5.out rfl (by omega) (by omega) (by omega)
    · go_wp2_with fail
      refine (spoil_any B g _ bs z0 _ HD3.out.dr.src (by omega) (by omega)).mono ?_; rintro e w6 ⟨z, rfl, hz, hs4, hg4⟩
      have HD4 := Lib.hid (HD3.out.draw hs4 hg4)
      obtain ⟨p0, q0⟩ := HD4.out.cellAt i hi
      obtain ⟨zs', hl', hd5⟩ := (HD4.out.more (Nat.le_refl _) (Nat.le_refl _) (S' := 101) (by omega)).put i z (by omega)
      have HD5 := Lib.hid hd5
      clear hs4 hg4 HD3 HD4 hl' hd5
      go_wp2_with fail
      go_ret
      exact RetTxA.of HD5.out rfl (by omega) (by omega) (by omega)
  · have e0 : (x == 0) = false := beq_eq_false_iff_ne.2 (fun e => e01 (.inl e))
    have e1 : (x == 1) = false := beq_eq_false_iff_ne.2 (fun e => e01 (.inr e))
    clear e01
    by_cases c2 : x = 2
    · subst c2
      obtain ⟨hcap, _⟩ := own_cap HD3.out.dr.row
      have hci : (i : Int) ≤ (c3 : Int) := by omega
      obtain ⟨zs', hl', hd5⟩ := HD3.out.cut i (by omega)
      have HD5 := Lib.hid hd5
      clear HD3 hl' hd5
      go_wp2_with fail
      go_ret
      exact RetTxA.of HD5.out rfl (by omega) (by omega) (by omega)
    · have e2 : (x == 2) = false := by simp [c2]
      by_cases c3' : x = 3
      · subst c3'
        obtain ⟨p0, _⟩ := HD3.out.cellAt i hi
        have hsz := HD3.out.sz zs[i] (List.getElem_mem hi)
        generalize zs[i] = z0 at *
        have Hrow := Lib.hid HD3.out.dr.row
        have hzz := HD3.out.dr.size
        go_wp2_with (at_builtin; refine wpList_apd 28 9 _ 1 16 Tryd.underlying28 infoStr rfl (by omega) _ _ rfl rfl w.heap.size _ zs.length _ rfl Hrow.out #[.string z0] 1 1 rfl rfl (by simp [Value.oneCell']) (by simp [maxLen]; omega) (by omega) hzz ?_; intro v7 w7 hown7 hg7; obtain ⟨b7, c7, rfl, hd7⟩ := HD3.out.app hsz hg7 hown7; have HD7 := Lib.hid hd7; clear hown7 hg7 hd7)
        go_ret
        exact RetTxA.of HD7.out rfl (by omega) (by omega) (by omega)
      · have e3 : (x == 3) = false := by simp [c3']
        by_cases c4 : x = 4
        · subst c4
          go_wp2_with fail
          refine (text_new B g _ 5 headsL bs w5 HD3.out.dr.src (by omega) rfl (by omega) (by omega)).mono ?_; rintro e w6 ⟨z, hz, rfl, hs4, hg4⟩
          have hz27 := headsL_sz z hz
          have HD4 := Lib.hid (HD3.out.draw hs4 hg4)
          obtain ⟨p0, q0⟩ := HD4.out.cellAt 0 (by omega)
          obtain ⟨zs', hl', hd5⟩ := HD4.out.put 0 z hz27
          have HD5 := Lib.hid hd5
          have h0l : (0 : Int) < (zs.length : Int) := by omega
          clear hs4 hg4 HD3 HD4 hl' hd5 hz hz27
          go_wp2_with fail
          go_ret
          exact RetTxA.of HD5.out rfl (by omega) (by omega) (by omega)
        · have e4 : (x == 4) = false := by simp [c4]
          have HD5 := Lib.hid HD3.out
          go_wp2_with fail
          go_ret
          exact RetTxA.of HD5.out rfl (by omega) (by omega) (by omega)
def RetDl (w : World) (e : Ending) (w' : World) : Prop := ∃ (v : Value) (L : List ByteArray), e = .returned v ∧ w'.ownsRow w.heap.size 9 1 v L.length (L.map Value.string) ∧ L.length ≤ 20 ∧ (∀ z ∈ L, z.size ≤ 110) ∧ Below w.heap.size w w'
theorem DrawPageFault_any (B : Nat) (cv : Value) (bs : List UInt8) (w : World) (h : Rd w B cv bs.length 1 (bs.map byV)) (hB : B ≤ w.heap.size) : Calls Tryd.prog 8 #[cv] w (RetDl w) := by
  have HF := Lib.hid (l00From_any B cv bs w h hB)
  obtain ⟨A, c, rfl⟩ := rd_sl h
  clear h
  go_enter Tryd.func8, Tryd.ntmps8
  go_wp2_with fail
  refine HF.out.mono ?_; rintro e w2 ⟨rfl, hs2, hb2, hlt2⟩
  have HP := Lib.hid (l18Printed_any B w.heap.size 0 bs w2 hs2 (by omega))
  have Hb2 := Lib.hid hb2
  clear hs2 hb2 HF
  go_wp2_with fail
  refine HP.out.mono ?_; rintro e w3 ⟨v3, zs, rfl, hd⟩
  have Hd := Lib.hid hd
  clear hd HP
  go_wp2_with fail
  go_ret
  exact ⟨v3, zs, rfl, ownsRow_le Hd.out.dr.row Hb2.out.size, Hd.out.len, Hd.out.sz, Hb2.out.grown Hd.out.dr.gr Hb2.out.size (fun k hk => by cases hk; exact Nat.le_refl _)⟩
end Go.Proofs.YtnhngccfbnnpoaaDoor
/- Mended rows, part 8: bent pages, orders, and what the law draws. -/
namespace Go.Proofs.YtnhngccfbnnpoaaDoor
open Go.RowKit Go.Joins
attribute [local go_sem ↓] Go.wp_at_zero Go.wp_at_succ

theorem PgAt.put {gs : Nat} {w wr : World} {gz gp gv cv : Nat} {s : ByteArray} {a b : Int} {n : Nat} {f : Nat → Int} (h : PgAt gs w wr gz gp s a b (.slice (some ⟨gv, 0, none⟩) n cv) n f) (i : Nat) (x : Int) : PgAt gs w (wr.setCell ⟨gv, i, none⟩ (.int .i64 x)) gz gp s a b (.slice (some ⟨gv, 0, none⟩) n cv) n (Go.Proofs.YtnhngccfbnnpoaaDoor.put f i x) := by
  have h1 := (h.row.stored i (.int .i64 x)).1
  rw [tab_set] at h1
  have n1 := pg_ne h.row h.res (by decide)
  have n2 := pg_ne h.row h.own (by decide)
  exact ⟨(Below.heap_setCell wr ⟨gv, i, none⟩ _ gz (fun e => n1 (by rw [e]; rfl))).trans h.res, (Below.heap_setCell wr ⟨gv, i, none⟩ _ gp (fun e => n2 (by rw [e]; rfl))).trans h.own, h1, grown_own h.gr h.row (grown_set wr gv i (.int .i64 x))⟩

set_option maxRecDepth 100000 in
set_option maxHeartbeats 6400000 in
theorem l18Bent_c (B gs k : Nat) (bs : List UInt8) (w : World) (h : SrcAt w B gs k bs) (hk : k < 4611686018427370000) : Calls Tryd.prog 31 #[.pointer (some ⟨gs, 0, none⟩)] w (DrawnP 0 61 w B gs (k + 90) bs) := by
  have hgl := h.lt
  have hA := (Below.refl w.heap.size w).alloc (Nat.le_refl _) (.cells #[.string ⟨#[]⟩, .int .i64 0, .int .i64 0, .slice none 0 0] 26)
  have HZ1 := Lib.hid (heap_alloc_new w (.cells #[.string ⟨#[]⟩, .int .i64 0, .int .i64 0, .slice none 0 0] 26))
  have Hg1 := Lib.hid (grown_of_below hA (some gs))
  have Hs1 := Lib.hid (h.below hA)
  have hlt1 : w.heap.size < (w.alloc (.cells #[.string ⟨#[]⟩, .int .i64 0, .int .i64 0, .slice none 0 0] 26)).heap.size := by simp
  clear h hA
  go_enter Tryd.func31, Tryd.ntmps31
  go_wp2_with fail
  generalize w.alloc (.cells #[.string ⟨#[]⟩, .int .i64 0, .int .i64 0, .slice none 0 0] 26) = w1 at *
  refine (l18Draw_c B gs k bs w1 Hs1.out (by omega)).mono ?_; rintro e w2 ⟨s, a, b, v, n, f, rfl, hss, hn1, hn16, ho2, hs2, hg2⟩
  obtain ⟨gv, cv, rfl, _, _⟩ := own_posC ho2 (by omega)
  have hlt2 := Nat.lt_of_lt_of_le hlt1 hg2.size
  have hA := (Below.refl w2.heap.size w2).alloc (Nat.le_refl _) (.cells #[.string s, .int .i64 a, .int .i64 b, (.slice (some ⟨gv, 0, none⟩) n cv)] 26)
  have Hp := Lib.hid (show PgAt gs w (w2.alloc (.cells #[.string s, .int .i64 a, .int .i64 b, (.slice (some ⟨gv, 0, none⟩) n cv)] 26)) w.heap.size w2.heap.size s a b (.slice (some ⟨gv, 0, none⟩) n cv) n f from
    ⟨(hA.block w.heap.size hlt2).trans ((hg2.block w.heap.size hlt1 (fun e => by injection e; omega)).trans HZ1.out), heap_alloc_new w2 _, ownsRow_le (ho2.alloc _) (Nat.le_of_lt hlt1), grown_below (grown_trans Hg1.out hg2) hA⟩)
  have Hs3 := Lib.hid (hs2.below hA)
  clear ho2 hs2 hg2 hA HZ1 Hg1 Hs1
  go_wp2_with fail
  generalize w2.alloc (.cells #[.string s, .int .i64 a, .int .i64 b, (.slice (some ⟨gv, 0, none⟩) n cv)] 26) = w3 at *
  generalize w2.heap.size = gp at *
  have hzp : w.heap.size ≠ gp := by omega
  have hpp : w.heap.size ≤ gp := by omega
  have hn61 : n ≤ 61 := by omega
  have hn1i : (0 : Int) < (n : Int) := by omega
  have hn1n : 0 < n := by omega
  refine (pick_any B gs (k + 80) bs 24 _ Hs3.out (by omega)).mono ?_; rintro e w4 ⟨x, rfl, _, hs4, hg4⟩
  have Hp4 := Lib.hid (Hp.out.pick hgl (Nat.le_refl _) hpp hg4)
  have Hs4 := Lib.hid hs4
  clear hs4 hg4 Hp Hs3
  by_cases c0 : x = 0
  · subst c0
    go_wp2_with fail
    refine (text_c B gs (k + 80 + 2) 2 [⟨#[]⟩, ⟨#[83, 113, 117, 97, 114, 101, 115]⟩] bs w4 Hs4.out (by omega) rfl (by omega) (by omega)).mono ?_; rintro e w5 ⟨s2, hsl, rfl, hs5, hg5⟩
    have hs2 : s2.size ≤ 1000 := by
      simp only [List.mem_cons, List.not_mem_nil, or_false] at hsl
      rcases hsl with rfl | rfl <;> decide
    have hp5 := Hp4.out.pick hgl (Nat.le_refl _) hpp hg5
    obtain ⟨q0, _, _, _, qz⟩ := blk4 hp5.own
    have q4 := qz 0
    have Hp6 := Lib.hid (hp5.field hpp hzp 0 (.string s2) (s' := s2) (a' := a) (b' := b) (v' := (.slice (some ⟨gv, 0, none⟩) n cv)) rfl hp5.row)
    have Hs6 := Lib.hid (hs5.grown (grown_set w5 gp 0 (.string s2)) (fun z hz => by cases hz; omega))
    clear hsl hs5 hg5 hp5 qz
    go_upto_region 15 with (fail)
    generalize w5.setCell ⟨gp, 0, none⟩ (.string s2) = w6 at *
    clear q0 q4
    obtain ⟨p0, p1, p2, p3, _⟩ := blk4 Hp6.out.own
    obtain ⟨r0, r1, r2, r3, rz⟩ := blk4 Hp6.out.res
    have y0 := rz 0
    have y1 := rz 1
    have y2 := rz 2
    have y3 := rz 3
    clear rz
    obtain ⟨W, hW, e0, e1, e2, e3, hrow, hsw, hgw⟩ := Hp6.out.done Hs6.out hgl (Nat.le_refl _)
    subst hW
    have He0 := Lib.hid e0
    have He1 := Lib.hid e1
    have He2 := Lib.hid e2
    have He3 := Lib.hid e3
    have Hfin := Lib.hid (show DrawnP 0 61 w B gs (k + 90) bs (.returned (.agg #[.string s2, .int .i64 a, .int .i64 b, (.slice (some ⟨gv, 0, none⟩) n cv)])) _ from ⟨s2, a, b, _, n, f, rfl, hs2, Nat.zero_le _, hn61, hrow, hsw.more (by omega), hgw⟩)
    clear e0 e1 e2 e3 hrow hsw hgw
    go_wp2_with fail
    exact bodyPost_ret (v := .agg #[.string s2, .int .i64 a, .int .i64 b, (.slice (some ⟨gv, 0, none⟩) n cv)]) (by simp [results, Tryd.results31, go_sem, He0.out, He1.out, He2.out, He3.out]) rfl Hfin.out
  · have e0 : (x == 0) = false := by simp [c0]
    by_cases c1 : x = 1
    · subst c1
      go_wp2_with fail
      refine (among_in B gs (k + 80 + 2) 5 [-1000001, -1000000, 1000000, 1000001, -9223372036854775808] bs w4 Hs4.out (by omega) rfl (by omega) (by omega)).mono ?_; rintro e w5 ⟨z, _, rfl, hs5, hg5⟩
      have hp5 := Hp4.out.pick hgl (Nat.le_refl _) hpp hg5
      obtain ⟨_, q1, q2, _, qz⟩ := blk4 hp5.own
      have q4 := qz 1
      have Hp6 := Lib.hid (hp5.field hpp hzp 1 (.int .i64 z) (s' := s) (a' := z) (b' := b) (v' := (.slice (some ⟨gv, 0, none⟩) n cv)) rfl hp5.row)
      have Hs6 := Lib.hid (hs5.grown (grown_set w5 gp 1 (.int .i64 z)) (fun z hz => by cases hz; omega))
      clear hs5 hg5 hp5 qz
      go_upto_region 15 with (fail)
      generalize w5.setCell ⟨gp, 1, none⟩ (.int .i64 z) = w6 at *
      clear q1 q2 q4
      obtain ⟨p0, p1, p2, p3, _⟩ := blk4 Hp6.out.own
      obtain ⟨r0, r1, r2, r3, rz⟩ := blk4 Hp6.out.res
      have y0 := rz 0
      have y1 := rz 1
      have y2 := rz 2
      have y3 := rz 3
      clear rz
      obtain ⟨W, hW, e0, e1, e2, e3, hrow, hsw, hgw⟩ := Hp6.out.done Hs6.out hgl (Nat.le_refl _)
      subst hW
      have He0 := Lib.hid e0
      have He1 := Lib.hid e1
      have He2 := Lib.hid e2
      have He3 := Lib.hid e3
      have Hfin := Lib.hid (show DrawnP 0 61 w B gs (k + 90) bs (.returned (.agg #[.string s, .int .i64 z, .int .i64 b, (.slice (some ⟨gv, 0, none⟩) n cv)])) _ from ⟨s, z, b, _, n, f, rfl, hss, Nat.zero_le _, hn61, hrow, hsw.more (by omega), hgw⟩)
      clear e0 e1 e2 e3 hrow hsw hgw
      go_wp2_with fail
      exact bodyPost_ret (v := .agg #[.string s, .int .i64 z, .int .i64 b, (.slice (some ⟨gv, 0, none⟩) n cv)]) (by simp [results, Tryd.results31, go_sem, He0.out, He1.out, He2.out, He3.out]) rfl Hfin.out
    · have e1 : (x == 1) = false := by simp [c1]
      by_cases c2 : x = 2
      · subst c2
        go_wp2_with fail
        refine (among_in B gs (k + 80 + 2) 5 [0, 1, 1000, 1001, 9223372036854775807] bs w4 Hs4.out (by omega) rfl (by omega) (by omega)).mono ?_; rintro e w5 ⟨z, _, rfl, hs5, hg5⟩
        have hp5 := Hp4.out.pick hgl (Nat.le_refl _) hpp hg5
        obtain ⟨_, q1, q2, _, qz⟩ := blk4 hp5.own
        have q4 := qz 2
        have Hp6 := Lib.hid (hp5.field hpp hzp 2 (.int .i64 z) (s' := s) (a' := a) (b' := z) (v' := (.slice (some ⟨gv, 0, none⟩) n cv)) rfl hp5.row)
        have Hs6 := Lib.hid (hs5.grown (grown_set w5 gp 2 (.int .i64 z)) (fun z hz => by cases hz; omega))
        clear hs5 hg5 hp5 qz
        go_upto_region 15 with (fail)
        generalize w5.setCell ⟨gp, 2, none⟩ (.int .i64 z) = w6 at *
        clear q1 q2 q4
        obtain ⟨p0, p1, p2, p3, _⟩ := blk4 Hp6.out.own
        obtain ⟨r0, r1, r2, r3, rz⟩ := blk4 Hp6.out.res
        have y0 := rz 0
        have y1 := rz 1
        have y2 := rz 2
        have y3 := rz 3
        clear rz
        obtain ⟨W, hW, e0, e1, e2, e3, hrow, hsw, hgw⟩ := Hp6.out.done Hs6.out hgl (Nat.le_refl _)
        subst hW
        have He0 := Lib.hid e0
        have He1 := Lib.hid e1
        have He2 := Lib.hid e2
        have He3 := Lib.hid e3
        have Hfin := Lib.hid (show DrawnP 0 61 w B gs (k + 90) bs (.returned (.agg #[.string s, .int .i64 a, .int .i64 z, (.slice (some ⟨gv, 0, none⟩) n cv)])) _ from ⟨s, a, z, _, n, f, rfl, hss, Nat.zero_le _, hn61, hrow, hsw.more (by omega), hgw⟩)
        clear e0 e1 e2 e3 hrow hsw hgw
        go_wp2_with fail
        exact bodyPost_ret (v := .agg #[.string s, .int .i64 a, .int .i64 z, (.slice (some ⟨gv, 0, none⟩) n cv)]) (by simp [results, Tryd.results31, go_sem, He0.out, He1.out, He2.out, He3.out]) rfl Hfin.out
      · have e2 : (x == 2) = false := by simp [c2]
        by_cases c3 : x = 3
        · subst c3
          go_wp2_with fail
          refine (pick_any B gs (k + 80 + 2) bs 2 _ Hs4.out (by omega)).mono ?_; rintro e w5 ⟨y, rfl, ⟨hy0, hy1, _⟩, hs5, hg5⟩
          have hy2 := hy1 (by omega)
          obtain ⟨N, hN⟩ : ∃ N : Nat, 60 + y = (N : Int) := ⟨(60 + y).toNat, by omega⟩
          have hyw : IntKind.i64.wrap (60 + y) = (N : Int) := by rw [IntWalk.i64_in _ (by omega)]; exact hN
          have hN2 : N ≤ 61 := by omega
          obtain ⟨wm, hm, hom, hbm⟩ := mk_ints N (by omega) w5
          have hpm := (Hp4.out.pick hgl (Nat.le_refl _) hpp hg5).pick hgl (Nat.le_refl _) hpp (grown_of_below hbm (some gs))
          have hw5 : w.heap.size ≤ w5.heap.size := Nat.le_trans Hp4.out.gr.size hg5.size
          obtain ⟨_, _, _, q3, qz⟩ := blk4 hpm.own
          have q4 := qz 3
          have Hp6 := Lib.hid (hpm.field hpp hzp 3 (.slice (some ⟨w5.heap.size, 0, none⟩) N N) (s' := s) (a' := a) (b' := b) (v' := .slice (some ⟨w5.heap.size, 0, none⟩) N N) rfl (ownsRow_le hom hw5))
          have Hs6 := Lib.hid ((hs5.below hbm).grown (grown_set wm gp 3 (.slice (some ⟨w5.heap.size, 0, none⟩) N N)) (fun z hz => by cases hz; omega))
          clear hs5 hg5 hpm hom hbm qz hy1
          go_upto_region 15 with (fail)
          generalize wm.setCell ⟨gp, 3, none⟩ (.slice (some ⟨w5.heap.size, 0, none⟩) N N) = w6 at *
          clear q3 q4
          obtain ⟨p0, p1, p2, p3, _⟩ := blk4 Hp6.out.own
          obtain ⟨r0, r1, r2, r3, rz⟩ := blk4 Hp6.out.res
          have y0 := rz 0
          have y1 := rz 1
          have y2 := rz 2
          have y3 := rz 3
          clear rz
          obtain ⟨W, hW, e0, e1, e2, e3, hrow, hsw, hgw⟩ := Hp6.out.done Hs6.out hgl (Nat.le_refl _)
          subst hW
          have He0 := Lib.hid e0
          have He1 := Lib.hid e1
          have He2 := Lib.hid e2
          have He3 := Lib.hid e3
          have Hfin := Lib.hid (show DrawnP 0 61 w B gs (k + 90) bs (.returned (.agg #[.string s, .int .i64 a, .int .i64 b, (.slice (some ⟨w5.heap.size, 0, none⟩) N N)])) _ from ⟨s, a, b, _, N, _, rfl, hss, Nat.zero_le _, hN2, hrow, hsw.more (by omega), hgw⟩)
          clear e0 e1 e2 e3 hrow hsw hgw
          go_wp2_with fail
          exact bodyPost_ret (v := .agg #[.string s, .int .i64 a, .int .i64 b, (.slice (some ⟨w5.heap.size, 0, none⟩) N N)]) (by simp [results, Tryd.results31, go_sem, He0.out, He1.out, He2.out, He3.out]) rfl Hfin.out
        · have e3 : (x == 3) = false := by simp [c3]
          by_cases c4 : x = 4
          · subst c4
            obtain ⟨_, _, _, q3, _⟩ := blk4 Hp4.out.own
            go_upto_region 12 with (fail)
            refine wp_region_noPanic ?_
            refine wp_region_L [6] (fun w' => w'.cell? ⟨gp, 3, none⟩ = some (.slice (some ⟨gv, 0, none⟩) n cv)) (by kernel_rfl) (q3) (fun hHeld => ?_)
            refine take_F (i := 0) (d := some 35) (v := ?_) (by kernel_rfl) (by kernel_rfl) rfl rfl (by kernel_rfl) (by kernel_rfl) (by kernel_rfl) (fun _ _ _ h => h) (Or.inl ⟨by rfl, ?_⟩) (by assumption) ?_
            rotate_left
            · (intro w hSw; (try dsimp only at hSw); go_simp; (try rw [if_neg (by omega)]); (try (with_reducible rfl)))
            simp only [Act.put, List.setIfInBounds_toArray, List.set_cons_zero, List.set_cons_succ]
            refine take_L [1] (i := 1) (d := some 36) (v := ?_) (by kernel_rfl) (by kernel_rfl) (by kernel_rfl) (by kernel_rfl) rfl rfl (by kernel_rfl) (by kernel_rfl) (by kernel_rfl) (fun _ _ _ h => h) (Or.inl ⟨by rfl, ?_⟩) (by assumption) ?_
            rotate_left
            · (intro w hSw; (try dsimp only at hSw); go_simp; (try rw [if_neg (by omega)]); (try (with_reducible rfl)))
            simp only [Act.put, List.setIfInBounds_toArray, List.set_cons_zero, List.set_cons_succ]
            refine take_F (i := 2) (d := some 37) (v := ?_) (by kernel_rfl) (by kernel_rfl) rfl rfl (by kernel_rfl) (by kernel_rfl) (by kernel_rfl) (fun _ _ _ h => h) (Or.inl ⟨by rfl, ?_⟩) (by assumption) ?_
            rotate_left
            · (intro w hSw; (try dsimp only at hSw); go_simp; (try rw [if_neg (by omega)]); (try (with_reducible rfl)))
            simp only [Act.put, List.setIfInBounds_toArray, List.set_cons_zero, List.set_cons_succ]
            refine call_L (i := 3) (d := (some 38)) rfl rfl (by kernel_rfl) (fun Kq hKq => ?_)
            go_simp
            refine hKq.out _ _ (cell_alloc (w := w4.drew) q3 _) (fun hHeld => ?_)
            clear hKq Kq
            (try simp only [Act.put, List.setIfInBounds_toArray, List.set_cons_zero, List.set_cons_succ])
            refine call_L (i := 4) (d := (some 39)) rfl rfl (by kernel_rfl) (fun Kq hKq => ?_)
            go_simp
            go_at_call 42
            refine (among_in B gs (k + 80 + 2) 4 [-1000000000001, -1000000000000, 1000000000000, 1000000000001] bs w4.drew Hs4.out.drew (by omega) rfl (by omega) (by omega)).mono ?_; rintro e w5 ⟨z, _, rfl, hs5, hg5⟩
            have hp5 := Hp4.out.pick hgl (Nat.le_refl _) hpp (grown_undrew hg5)
            obtain ⟨_, _, _, q5, _⟩ := blk4 hp5.own
            obtain ⟨u0, u1⟩ := own_cellD hp5.row 0 (by omega)
            have hgv := (hp5.row.lt gv rfl).1
            have Hp6 := Lib.hid (hp5.put 0 z)
            have Hs6 := Lib.hid (hs5.grown (grown_set w5 gv 0 (.int .i64 z)) (fun z hz => by cases hz; omega))
            clear hs5 hg5 hp5
            (try go_wp2_with fail)
            refine hKq.out _ _ (q5) (fun hHeld => ?_)
            clear hKq Kq
            (try simp only [Act.put, List.setIfInBounds_toArray, List.set_cons_zero, List.set_cons_succ])
            refine take_F (i := 5) (d := some 40) (v := ?_) (by kernel_rfl) (by kernel_rfl) rfl rfl (by kernel_rfl) (by kernel_rfl) (by kernel_rfl) (fun _ _ _ h => h) (Or.inl ⟨by rfl, ?_⟩) (by assumption) ?_
            rotate_left
            · (intro w hSw; (try dsimp only at hSw); go_simp; (try rw [if_neg (by omega)]); (try (with_reducible rfl)))
            simp only [Act.put, List.setIfInBounds_toArray, List.set_cons_zero, List.set_cons_succ]
            refine late_L (i := 6) (d := none) (by kernel_rfl) rfl rfl (by kernel_rfl) (fun Kq hKq => ?_)
            go_simp
            refine hKq.out _ _ ?_
            clear hKq Kq
            refine done_L (by kernel_rfl) ?_ _
            refine NoPanic.normal ?_
            (try go_upto_region 15 with (fail))
            generalize w5.setCell ⟨gv, 0, none⟩ (.int .i64 z) = w6 at *
            clear q3 q5 u0 u1
            obtain ⟨p0, p1, p2, p3, _⟩ := blk4 Hp6.out.own
            obtain ⟨r0, r1, r2, r3, rz⟩ := blk4 Hp6.out.res
            have y0 := rz 0
            have y1 := rz 1
            have y2 := rz 2
            have y3 := rz 3
            clear rz
            obtain ⟨W, hW, e0, e1, e2, e3, hrow, hsw, hgw⟩ := Hp6.out.done Hs6.out hgl (Nat.le_refl _)
            subst hW
            have He0 := Lib.hid e0
            have He1 := Lib.hid e1
            have He2 := Lib.hid e2
            have He3 := Lib.hid e3
            have Hfin := Lib.hid (show DrawnP 0 61 w B gs (k + 90) bs (.returned (.agg #[.string s, .int .i64 a, .int .i64 b, (.slice (some ⟨gv, 0, none⟩) n cv)])) _ from ⟨s, a, b, _, n, _, rfl, hss, Nat.zero_le _, hn61, hrow, hsw.more (by omega), hgw⟩)
            clear e0 e1 e2 e3 hrow hsw hgw
            go_wp2_with fail
            exact bodyPost_ret (v := .agg #[.string s, .int .i64 a, .int .i64 b, (.slice (some ⟨gv, 0, none⟩) n cv)]) (by simp [results, Tryd.results31, go_sem, He0.out, He1.out, He2.out, He3.out]) rfl Hfin.out
          · have e4 : (x == 4) = false := by simp [c4]
            by_cases c5 : x = 5
            · subst c5
              have hA := (Below.refl w4.heap.size w4).alloc (Nat.le_refl _) (.cells #[] 2)
              have hp5 := Hp4.out.pick hgl (Nat.le_refl _) hpp (grown_of_below hA (some gs))
              obtain ⟨_, _, _, q3, qz⟩ := blk4 hp5.own
              have q4 := qz 3
              have Hp6 := Lib.hid (hp5.field hpp hzp 3 (.slice (some ⟨w4.heap.size, 0, none⟩) 0 0) (s' := s) (a' := a) (b' := b) (v' := .slice (some ⟨w4.heap.size, 0, none⟩) 0 0) (n' := 0) (f' := fun _ => 0) rfl (World.ownsRow_made (base := w.heap.size) (e := 2) (size := 1) w4 #[] 0 Hp4.out.gr.size (by simp [maxLen]) rfl))
              have Hs6 := Lib.hid ((Hs4.out.below hA).grown (grown_set (w4.alloc (.cells #[] 2)) gp 3 (.slice (some ⟨w4.heap.size, 0, none⟩) 0 0)) (fun z hz => by cases hz; omega))
              clear hA hp5 qz
              go_upto_region 15 with (fail)
              generalize (w4.alloc (.cells #[] 2)).setCell ⟨gp, 3, none⟩ (.slice (some ⟨w4.heap.size, 0, none⟩) 0 0) = w6 at *
              clear q3 q4
              obtain ⟨p0, p1, p2, p3, _⟩ := blk4 Hp6.out.own
              obtain ⟨r0, r1, r2, r3, rz⟩ := blk4 Hp6.out.res
              have y0 := rz 0
              have y1 := rz 1
              have y2 := rz 2
              have y3 := rz 3
              clear rz
              obtain ⟨W, hW, e0, e1, e2, e3, hrow, hsw, hgw⟩ := Hp6.out.done Hs6.out hgl (Nat.le_refl _)
              subst hW
              have He0 := Lib.hid e0
              have He1 := Lib.hid e1
              have He2 := Lib.hid e2
              have He3 := Lib.hid e3
              have Hfin := Lib.hid (show DrawnP 0 61 w B gs (k + 90) bs (.returned (.agg #[.string s, .int .i64 a, .int .i64 b, (.slice (some ⟨w4.heap.size, 0, none⟩) 0 0)])) _ from ⟨s, a, b, _, 0, _, rfl, hss, Nat.zero_le _, (by omega), hrow, hsw.more (by omega), hgw⟩)
              clear e0 e1 e2 e3 hrow hsw hgw
              go_wp2_with fail
              exact bodyPost_ret (v := .agg #[.string s, .int .i64 a, .int .i64 b, (.slice (some ⟨w4.heap.size, 0, none⟩) 0 0)]) (by simp [results, Tryd.results31, go_sem, He0.out, He1.out, He2.out, He3.out]) rfl Hfin.out
            · have e5 : (x == 5) = false := by simp [c5]
              go_upto_region 15 with (fail)
              obtain ⟨p0, p1, p2, p3, _⟩ := blk4 Hp4.out.own
              obtain ⟨r0, r1, r2, r3, rz⟩ := blk4 Hp4.out.res
              have y0 := rz 0
              have y1 := rz 1
              have y2 := rz 2
              have y3 := rz 3
              clear rz
              obtain ⟨W, hW, e0, e1, e2, e3, hrow, hsw, hgw⟩ := Hp4.out.done Hs4.out hgl (Nat.le_refl _)
              subst hW
              have He0 := Lib.hid e0
              have He1 := Lib.hid e1
              have He2 := Lib.hid e2
              have He3 := Lib.hid e3
              have Hfin := Lib.hid (show DrawnP 0 61 w B gs (k + 90) bs (.returned (.agg #[.string s, .int .i64 a, .int .i64 b, (.slice (some ⟨gv, 0, none⟩) n cv)])) _ from ⟨s, a, b, _, n, f, rfl, hss, Nat.zero_le _, hn61, hrow, hsw.more (by omega), hgw⟩)
              clear e0 e1 e2 e3 hrow hsw hgw
              go_wp2_with fail
              exact bodyPost_ret (v := .agg #[.string s, .int .i64 a, .int .i64 b, (.slice (some ⟨gv, 0, none⟩) n cv)]) (by simp [results, Tryd.results31, go_sem, He0.out, He1.out, He2.out, He3.out]) rfl Hfin.out
end Go.Proofs.YtnhngccfbnnpoaaDoor
/- Mended rows, part 9: what the law draws. -/
namespace Go.Proofs.YtnhngccfbnnpoaaDoor
open Go.RowKit Go.Joins
attribute [local go_sem ↓] Go.wp_at_zero Go.wp_at_succ

def RetDP2 (w : World) (e : Ending) (w' : World) : Prop :=
  ∃ s a b v n f x, e = .returned (.tuple #[.agg #[.string s, .int .i64 a, .int .i64 b, v], .int .i64 x]) ∧ s.size ≤ 1000 ∧ n ≤ 61 ∧ w'.ownsRow w.heap.size 2 1 v n (tab n f) ∧ Below w.heap.size w w'
def RetDP3 (w : World) (e : Ending) (w' : World) : Prop :=
  ∃ s a b v n f x y, e = .returned (.tuple #[.agg #[.string s, .int .i64 a, .int .i64 b, v], .int .i64 x, .int .i64 y]) ∧ s.size ≤ 1000 ∧ n ≤ 61 ∧ w'.ownsRow w.heap.size 2 1 v n (tab n f) ∧ Below w.heap.size w w'
end Go.Proofs.YtnhngccfbnnpoaaDoor
/- Printed pages, part 15: draws of the law (gen_pa15.py). -/
namespace Go.Proofs.YtnhngccfbnnpoaaDoor
open Go.RowKit Go.Joins
attribute [local go_sem ↓] Go.wp_at_zero Go.wp_at_succ

def RetDP1 (w : World) (e : Ending) (w' : World) : Prop :=
  ∃ s a b v n f, e = .returned (.agg #[.string s, .int .i64 a, .int .i64 b, v]) ∧ s.size ≤ 1000 ∧ n ≤ 61 ∧ w'.ownsRow w.heap.size 2 1 v n (tab n f) ∧ Below w.heap.size w w'
set_option maxRecDepth 100000 in
set_option maxHeartbeats 1600000 in
theorem DrawPrintPage_c (B : Nat) (cv : Value) (bs : List UInt8) (w : World) (h : Rd w B cv bs.length 1 (bs.map byV)) (hB : B ≤ w.heap.size) : Calls Tryd.prog 5 #[cv] w (RetDP1 w) := by
  have hA := (Below.refl w.heap.size w).alloc (Nat.le_refl _) (.cells #[.string ⟨#[]⟩, .int .i64 0, .int .i64 0, .slice none 0 0] 26)
  have HF := Lib.hid (l00From_any B cv bs _ (h.below (hA.mono hB)) (Nat.le_trans hB hA.size))
  have HB0 := Lib.hid (Below.refl (w.alloc (.cells #[.string ⟨#[]⟩, .int .i64 0, .int .i64 0, .slice none 0 0] 26)).heap.size (w.alloc (.cells #[.string ⟨#[]⟩, .int .i64 0, .int .i64 0, .slice none 0 0] 26)))
  have hlt1 : w.heap.size < (w.alloc (.cells #[.string ⟨#[]⟩, .int .i64 0, .int .i64 0, .slice none 0 0] 26)).heap.size := by simp
  obtain ⟨A, c, rfl⟩ := rd_sl h
  clear h hA
  go_enter Tryd.func5, Tryd.ntmps5
  go_wp2_with fail
  obtain ⟨w1, hw1⟩ : ∃ z, w.alloc (.cells #[.string ⟨#[]⟩, .int .i64 0, .int .i64 0, .slice none 0 0] 26) = z := ⟨_, rfl⟩
  have HW := Lib.hid hw1
  rw [hw1] at HF HB0 hlt1
  (try rw [hw1])
  clear hw1
  refine HF.out.mono ?_; rintro e w2 ⟨rfl, hs2, hb2, hlt2⟩
  have HP := Lib.hid (l18Bent_c B _ 0 bs w2 hs2 (by omega))
  have HB2 := Lib.hid (HB0.out.trans (hb2.mono HB0.out.size))
  clear hs2 hb2 HF
  go_wp2_with fail
  refine HP.out.mono ?_; rintro e w3 ⟨s, a, b, v, n, f, rfl, hss, _, hn61, ho3, hs3, hg3⟩
  obtain ⟨A3, c3, rfl⟩ := own_sl ho3
  have HX := Lib.hid (HB2.out.grown hg3 HB2.out.size (fun k hk => by cases hk; exact Nat.le_refl _))
  rw [← HW.out] at HX
  obtain ⟨⟨d0, d1, d2, d3⟩, e0, e1, e2, e3⟩ := res4A_pre HX.out
  have HD := Lib.hid (res4A_post HX.out (.string s) (.int .i64 a) (.int .i64 b) (.slice A3 n c3))
  have HOw := Lib.hid (ownsRow_le (set4_own ho3 (show w.heap.size < w2.heap.size from Nat.lt_trans hlt1 hlt2) (.string s) (.int .i64 a) (.int .i64 b) (.slice A3 n c3)) (show w.heap.size ≤ w2.heap.size from Nat.le_of_lt (Nat.lt_trans hlt1 hlt2)))
  clear ho3 hs3 hg3 HP
  go_wp2_with fail
  obtain ⟨⟨k0, k1, k2, k3⟩, hbz⟩ := HD.out
  exact bodyPost_ret (v := .agg #[.string s, .int .i64 a, .int .i64 b, .slice A3 n c3]) (by simp [results, Tryd.results5, go_sem, k0, k1, k2, k3]) rfl ⟨s, a, b, _, n, f, rfl, hss, hn61, HOw.out, hbz⟩
def RetD1 (w : World) (e : Ending) (w' : World) : Prop := ∃ x : Int, e = .returned (.int .i64 x) ∧ Below w.heap.size w w'
theorem DrawCheckDigit_c (B : Nat) (cv : Value) (bs : List UInt8) (w : World) (h : Rd w B cv bs.length 1 (bs.map byV)) (hB : B ≤ w.heap.size) : Calls Tryd.prog 19 #[cv] w (RetD1 w) := by
  have HF := Lib.hid (l00From_any B cv bs w h hB)
  obtain ⟨A, c, rfl⟩ := rd_sl h
  clear h
  go_enter Tryd.func19, Tryd.ntmps19
  go_wp2_with fail
  refine HF.out.mono ?_; rintro e w2 ⟨rfl, hs2, hb2, hlt2⟩
  have HP := Lib.hid (l17DrawValue_c B w.heap.size 0 bs w2 hs2 (by omega))
  have Hb2 := Lib.hid hb2
  clear hs2 hb2 HF
  go_wp2_with fail
  refine HP.out.mono ?_; rintro e w3 ⟨x, rfl, _, hs3, hg3⟩
  have HB3 := Lib.hid (Hb2.out.grown hg3 Hb2.out.size (fun k hk => by cases hk; exact Nat.le_refl _))
  clear hs3 hg3 HP
  go_wp2_with fail
  go_ret
  exact ⟨x, rfl, HB3.out⟩
theorem DrawPfName_c (B : Nat) (cv : Value) (bs : List UInt8) (w : World) (h : Rd w B cv bs.length 1 (bs.map byV)) (hB : B ≤ w.heap.size) : Calls Tryd.prog 23 #[cv] w (RetD1 w) := by
  have HF := Lib.hid (l00From_any B cv bs w h hB)
  obtain ⟨A, c, rfl⟩ := rd_sl h
  clear h
  go_enter Tryd.func23, Tryd.ntmps23
  go_wp2_with fail
  refine HF.out.mono ?_; rintro e w2 ⟨rfl, hs2, hb2, hlt2⟩
  have HP := Lib.hid (pick_any B w.heap.size 0 bs 9 w2 hs2 (by omega))
  have Hb2 := Lib.hid hb2
  clear hs2 hb2 HF
  go_wp2_with fail
  refine HP.out.mono ?_; rintro e w3 ⟨x, rfl, _, hs3, hg3⟩
  have HB3 := Lib.hid (Hb2.out.grown hg3 Hb2.out.size (fun k hk => by cases hk; exact Nat.le_refl _))
  clear hs3 hg3 HP
  go_wp2_with fail
  go_ret
  exact ⟨_, rfl, HB3.out⟩
set_option maxRecDepth 100000 in
set_option maxHeartbeats 3200000 in
theorem DrawValueAt_c (B : Nat) (cv : Value) (bs : List UInt8) (w : World) (h : Rd w B cv bs.length 1 (bs.map byV)) (hB : B ≤ w.heap.size) : Calls Tryd.prog 13 #[cv] w (RetDP2 w) := by
  have hA := (Below.refl w.heap.size w).alloc (Nat.le_refl _) (.cells #[.string ⟨#[]⟩, .int .i64 0, .int .i64 0, .slice none 0 0] 26)
  have HF := Lib.hid (l00From_any B cv bs _ (h.below (hA.mono hB)) (Nat.le_trans hB hA.size))
  have HZ1 := Lib.hid (heap_alloc_new w (.cells #[.string ⟨#[]⟩, .int .i64 0, .int .i64 0, .slice none 0 0] 26))
  have Hb1 := Lib.hid hA
  have hlt1 : w.heap.size < (w.alloc (.cells #[.string ⟨#[]⟩, .int .i64 0, .int .i64 0, .slice none 0 0] 26)).heap.size := by simp
  obtain ⟨A, c, rfl⟩ := rd_sl h
  clear h hA
  go_enter Tryd.func13, Tryd.ntmps13
  go_wp2_with fail
  generalize w.alloc (.cells #[.string ⟨#[]⟩, .int .i64 0, .int .i64 0, .slice none 0 0] 26) = w1 at *
  refine HF.out.mono ?_; rintro e w2 ⟨rfl, hs2, hb2, hlt2⟩
  have Hs2 := Lib.hid hs2
  have HZ2 := Lib.hid ((hb2.block w.heap.size hlt1).trans HZ1.out)
  have Hb2 := Lib.hid (Hb1.out.trans (hb2.mono (Nat.le_of_lt hlt1)))
  clear hs2 hb2 HZ1 Hb1 HF
  go_wp2_with fail
  generalize w1.heap.size = gs at *
  refine (l18Bent_c B gs 0 bs w2 Hs2.out (by omega)).mono ?_; rintro e w3 ⟨s, a, b, v, n, f, rfl, hss, _, hn61, ho3, hs3, hg3⟩
  obtain ⟨A3, c3, rfl⟩ := own_sl ho3
  have hZ3 := (hg3.block w.heap.size (Nat.lt_trans hlt1 hlt2) (fun e => by injection e; omega)).trans HZ2.out
  have hb3 := Hb2.out.grown hg3 Hb2.out.size (fun k hk => by cases hk; omega)
  have hA := (Below.refl w3.heap.size w3).alloc (Nat.le_refl _) (.cells #[.string s, .int .i64 a, .int .i64 b, .slice A3 n c3] 26)
  have hlt3 : w.heap.size < w3.heap.size := Nat.lt_of_lt_of_le (Nat.lt_trans hlt1 hlt2) hg3.size
  have HZ4 := Lib.hid ((hA.block w.heap.size hlt3).trans hZ3)
  have HP4 := Lib.hid (heap_alloc_new w3 (.cells #[.string s, .int .i64 a, .int .i64 b, .slice A3 n c3] 26))
  have Hb4 := Lib.hid (hb3.trans (hA.mono hb3.size))
  have Ho4 := Lib.hid (ownsRow_le (ho3.alloc (.cells #[.string s, .int .i64 a, .int .i64 b, .slice A3 n c3] 26)) (show gs + 1 ≤ w2.heap.size by omega))
  have Hs4 := Lib.hid (hs3.below hA)
  have hgp : gs < w3.heap.size := Nat.lt_of_lt_of_le hlt2 hg3.size
  clear ho3 hs3 hg3 hZ3 hb3 hA HZ2 Hb2 Hs2
  go_upto_region 3 with (fail)
  generalize hl4 : w3.heap.size = gp at *
  generalize w3.alloc (.cells #[.string s, .int .i64 a, .int .i64 b, .slice A3 n c3] 26) = w4 at *
  clear hl4
  go_wp2_with fail
  refine (one_any B gs _ bs 12 w4 Hs4.out (by omega)).mono ?_; rintro e w5 ⟨y, rfl, hs5, hg5⟩
  have HZ5 := Lib.hid ((hg5.block w.heap.size (Array.getElem?_eq_some_iff.1 HZ4.out).1 (fun e => by injection e; omega)).trans HZ4.out)
  have HP5 := Lib.hid ((hg5.block gp (Array.getElem?_eq_some_iff.1 HP4.out).1 (fun e => by injection e; omega)).trans HP4.out)
  have Hb5 := Lib.hid (Hb4.out.grown hg5 Hb4.out.size (fun k hk => by cases hk; omega))
  have Ho5 := Lib.hid (own_gs Ho4.out hg5 (Nat.lt_succ_self _))
  have Hs5 := Lib.hid hs5
  clear hs5 hg5 HZ4 HP4 Hb4 Ho4 Hs4
  cases y with
  | true =>
    go_upto_region 4 with (fail)
    obtain ⟨p0, p1, p2, p3, _⟩ := blk4 HP5.out
    refine wp_region_noPanic ?_
    refine wp_region_L [5,4] (fun w' => w'.cell? ⟨gp, 0, none⟩ = some (.string s) ∧ w'.cell? ⟨gp, 1, none⟩ = some (.int .i64 a) ∧ w'.cell? ⟨gp, 2, none⟩ = some (.int .i64 b) ∧ w'.cell? ⟨gp, 3, none⟩ = some (.slice A3 n c3)) (by kernel_rfl) (⟨p0, p1, p2, p3⟩) (fun hHeld => ?_)
    refine take_L [0] (i := 0) (d := some 12) (v := ?_) (by kernel_rfl) (by kernel_rfl) (by kernel_rfl) (by kernel_rfl) rfl rfl (by kernel_rfl) (by kernel_rfl) (by kernel_rfl) (fun _ _ _ h => h) (Or.inl ⟨by rfl, ?_⟩) (by assumption) ?_
    rotate_left
    · (intro w hSw; (try dsimp only at hSw); go_simp; (try rw [if_neg (by omega)]); (try (with_reducible rfl)))
    simp only [Act.put, List.setIfInBounds_toArray, List.set_cons_zero, List.set_cons_succ]
    refine take_F (i := 1) (d := some 13) (v := ?_) (by kernel_rfl) (by kernel_rfl) rfl rfl (by kernel_rfl) (by kernel_rfl) (by kernel_rfl) (fun _ _ _ h => h) (Or.inl ⟨by rfl, ?_⟩) (by assumption) ?_
    rotate_left
    · (intro w hSw; (try dsimp only at hSw); go_simp; (try rw [if_neg (by omega)]); (try (with_reducible rfl)))
    simp only [Act.put, List.setIfInBounds_toArray, List.set_cons_zero, List.set_cons_succ]
    refine call_L (i := 2) (d := (some 14)) rfl rfl (by kernel_rfl) (fun Kq hKq => ?_)
    go_simp
    refine hKq.out _ _ (⟨cell_alloc (w := w5.drew) p0 _, cell_alloc (w := w5.drew) p1 _, cell_alloc (w := w5.drew) p2 _, cell_alloc (w := w5.drew) p3 _⟩) (fun hHeld => ?_)
    clear hKq Kq
    (try simp only [Act.put, List.setIfInBounds_toArray, List.set_cons_zero, List.set_cons_succ])
    refine call_L (i := 3) (d := (some 15)) rfl rfl (by kernel_rfl) (fun Kq hKq => ?_)
    go_simp
    go_at_call 42
    refine (among_in B gs _ 4 [-9223372036854775808, 9223372036854775807, -1000000, 1000000] bs w5.drew Hs5.out.drew (by omega) rfl (by omega) (by omega)).mono ?_; rintro e w7 ⟨x, _, rfl, hs7, hg7⟩
    have hg7 := grown_undrew hg7
    have hZ := (hg7.block w.heap.size (Array.getElem?_eq_some_iff.1 HZ5.out).1 (fun e => by injection e; omega)).trans HZ5.out
    have hP := (hg7.block gp (Array.getElem?_eq_some_iff.1 HP5.out).1 (fun e => by injection e; omega)).trans HP5.out
    have hb7 := Hb5.out.grown hg7 Hb5.out.size (fun k hk => by cases hk; omega)
    have ho7 := own_gs Ho5.out hg7 (Nat.lt_succ_self _)
    obtain ⟨q0, q1, q2, q3, _⟩ := blk4 hP
    obtain ⟨z0, z1, z2, z3, zz⟩ := blk4 hZ
    have y0 := zz 0
    have y1 := zz 1
    have y2 := zz 2
    have y3 := zz 3
    obtain ⟨e0, e1, e2, e3, _⟩ := blk4 (set4 hZ (.string s) (.int .i64 a) (.int .i64 b) (.slice A3 n c3))
    have He0 := Lib.hid e0
    have He1 := Lib.hid e1
    have He2 := Lib.hid e2
    have He3 := Lib.hid e3
    have Hbe := Lib.hid (set4_below hb7 (Nat.le_refl _) (.string s) (.int .i64 a) (.int .i64 b) (.slice A3 n c3))
    have Hoe := Lib.hid (ownsRow_le (set4_own ho7 (show w.heap.size < gs + 1 by omega) (.string s) (.int .i64 a) (.int .i64 b) (.slice A3 n c3)) (show w.heap.size ≤ gs + 1 by omega))
    clear hs7 hg7 hZ hP hb7 ho7 zz e0 e1 e2 e3
    clear p0 p1 p2 p3
    (try go_wp2_with fail)
    refine hKq.out _ _ (⟨q0, q1, q2, q3⟩) (fun hHeld => ?_)
    clear hKq Kq
    (try simp only [Act.put, List.setIfInBounds_toArray, List.set_cons_zero, List.set_cons_succ])
    refine late_L (i := 4) (d := none) (by kernel_rfl) rfl rfl (by kernel_rfl) (fun Kq hKq => ?_)
    go_simp
    refine hKq.out _ _ ?_
    clear hKq Kq
    refine late_L (i := 5) (d := (some 3)) (by kernel_rfl) rfl rfl (by kernel_rfl) (fun Kq hKq => ?_)
    go_simp
    refine hKq.out _ _ ?_
    clear hKq Kq
    refine done_L (by kernel_rfl) ?_ _
    refine NoPanic.normal ?_
    (try go_wp2_with fail)
    exact bodyPost_ret (v := .tuple #[.agg #[.string s, .int .i64 a, .int .i64 b, .slice A3 n c3], .int .i64 x]) (by simp [results, Tryd.results13, go_sem, He0.out, He1.out, He2.out, He3.out]) rfl ⟨s, a, b, _, n, f, x, rfl, hss, hn61, Hoe.out, Hbe.out⟩
  | false =>
    go_upto_region 5 with (fail)
    obtain ⟨p0, p1, p2, p3, _⟩ := blk4 HP5.out
    refine wp_region_noPanic ?_
    refine wp_region_L [5,4] (fun w' => w'.cell? ⟨gp, 0, none⟩ = some (.string s) ∧ w'.cell? ⟨gp, 1, none⟩ = some (.int .i64 a) ∧ w'.cell? ⟨gp, 2, none⟩ = some (.int .i64 b) ∧ w'.cell? ⟨gp, 3, none⟩ = some (.slice A3 n c3)) (by kernel_rfl) (⟨p0, p1, p2, p3⟩) (fun hHeld => ?_)
    refine take_L [0] (i := 0) (d := some 16) (v := ?_) (by kernel_rfl) (by kernel_rfl) (by kernel_rfl) (by kernel_rfl) rfl rfl (by kernel_rfl) (by kernel_rfl) (by kernel_rfl) (fun _ _ _ h => h) (Or.inl ⟨by rfl, ?_⟩) (by assumption) ?_
    rotate_left
    · (intro w hSw; (try dsimp only at hSw); go_simp; (try rw [if_neg (by omega)]); (try (with_reducible rfl)))
    simp only [Act.put, List.setIfInBounds_toArray, List.set_cons_zero, List.set_cons_succ]
    refine take_F (i := 1) (d := some 17) (v := ?_) (by kernel_rfl) (by kernel_rfl) rfl rfl (by kernel_rfl) (by kernel_rfl) (by kernel_rfl) (fun _ _ _ h => h) (Or.inl ⟨by rfl, ?_⟩) (by assumption) ?_
    rotate_left
    · (intro w hSw; (try dsimp only at hSw); go_simp; (try rw [if_neg (by omega)]); (try (with_reducible rfl)))
    simp only [Act.put, List.setIfInBounds_toArray, List.set_cons_zero, List.set_cons_succ]
    refine call_L (i := 2) (d := (some 18)) rfl rfl (by kernel_rfl) (fun Kq hKq => ?_)
    go_simp
    go_at_call 43
    refine (pick_any B gs _ bs 100 w5.drew Hs5.out.drew (by omega)).mono ?_; rintro e w7 ⟨x0, rfl, ⟨hx0, hx1, _⟩, hs7, hg7⟩
    have hx2 := hx1 (by omega)
    obtain ⟨x, hx⟩ : ∃ x, x0 - 14 = x := ⟨_, rfl⟩
    have hwx : IntKind.i64.wrap (x0 - 14) = x := by rw [← hx]; exact IntWalk.i64_in _ (by omega)
    clear hx hx1
    have hg7 := grown_undrew hg7
    have hZ := (hg7.block w.heap.size (Array.getElem?_eq_some_iff.1 HZ5.out).1 (fun e => by injection e; omega)).trans HZ5.out
    have hP := (hg7.block gp (Array.getElem?_eq_some_iff.1 HP5.out).1 (fun e => by injection e; omega)).trans HP5.out
    have hb7 := Hb5.out.grown hg7 Hb5.out.size (fun k hk => by cases hk; omega)
    have ho7 := own_gs Ho5.out hg7 (Nat.lt_succ_self _)
    obtain ⟨q0, q1, q2, q3, _⟩ := blk4 hP
    obtain ⟨z0, z1, z2, z3, zz⟩ := blk4 hZ
    have y0 := zz 0
    have y1 := zz 1
    have y2 := zz 2
    have y3 := zz 3
    obtain ⟨e0, e1, e2, e3, _⟩ := blk4 (set4 hZ (.string s) (.int .i64 a) (.int .i64 b) (.slice A3 n c3))
    have He0 := Lib.hid e0
    have He1 := Lib.hid e1
    have He2 := Lib.hid e2
    have He3 := Lib.hid e3
    have Hbe := Lib.hid (set4_below hb7 (Nat.le_refl _) (.string s) (.int .i64 a) (.int .i64 b) (.slice A3 n c3))
    have Hoe := Lib.hid (ownsRow_le (set4_own ho7 (show w.heap.size < gs + 1 by omega) (.string s) (.int .i64 a) (.int .i64 b) (.slice A3 n c3)) (show w.heap.size ≤ gs + 1 by omega))
    clear hs7 hg7 hZ hP hb7 ho7 zz e0 e1 e2 e3
    clear p0 p1 p2 p3
    (try go_wp2_with fail)
    refine hKq.out _ _ (⟨q0, q1, q2, q3⟩) (fun hHeld => ?_)
    clear hKq Kq
    (try simp only [Act.put, List.setIfInBounds_toArray, List.set_cons_zero, List.set_cons_succ])
    refine take_F (i := 3) (d := some 19) (v := ?_) (by kernel_rfl) (by kernel_rfl) rfl rfl (by kernel_rfl) (by kernel_rfl) (by kernel_rfl) (fun _ _ _ h => h) (Or.inl ⟨by rfl, ?_⟩) (by assumption) ?_
    rotate_left
    · (intro w hSw; (try dsimp only at hSw); go_simp; (try rw [if_neg (by omega)]); (try (with_reducible rfl)))
    simp only [Act.put, List.setIfInBounds_toArray, List.set_cons_zero, List.set_cons_succ]
    refine late_L (i := 4) (d := none) (by kernel_rfl) rfl rfl (by kernel_rfl) (fun Kq hKq => ?_)
    go_simp
    refine hKq.out _ _ ?_
    clear hKq Kq
    refine late_L (i := 5) (d := (some 3)) (by kernel_rfl) rfl rfl (by kernel_rfl) (fun Kq hKq => ?_)
    go_simp
    refine hKq.out _ _ ?_
    clear hKq Kq
    refine done_L (by kernel_rfl) ?_ _
    refine NoPanic.normal ?_
    (try go_wp2_with fail)
    exact bodyPost_ret (v := .tuple #[.agg #[.string s, .int .i64 a, .int .i64 b, .slice A3 n c3], .int .i64 x]) (by simp [results, Tryd.results13, go_sem, He0.out, He1.out, He2.out, He3.out]) rfl ⟨s, a, b, _, n, f, x, rfl, hss, hn61, Hoe.out, Hbe.out⟩
end Go.Proofs.YtnhngccfbnnpoaaDoor
