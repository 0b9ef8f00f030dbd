/- The draw of three signals; the law FnSignals. -/
import Derived.Test.YthdlepejbikofaaJoin
namespace Go.Proofs.Ythdlepejbikofaa
open Go.RowKit Go.Joins

/-- a signal is drawn -/
def DrawnS (w : World) (B g k : Nat) (bs : List UInt8) (e : Ending) (w' : World) : Prop :=
  ∃ x y : Bool, e = .returned (.agg #[.bool x, .bool y]) ∧ SrcAt w' B g k bs ∧ w.grownBy w' (some g)

set_option maxHeartbeats 400000 in
theorem l07Signal_any (B g k : Nat) (bs : List UInt8) (w : World) (h : SrcAt w B g k bs) (hk : k < 4611686018427387800) :
    Calls Try.prog 51 #[.pointer (some ⟨g, 0, none⟩)] w (DrawnS w B g (k + 4) bs) := by
  have hlt := h.lt
  have H := Lib.hid h; clear h
  go_enter Try.func51, Try.ntmps51
  go_wp2_with fail
  refine (one_any B g k bs 2 _ (H.out.below ((Below.refl _ _).alloc (Nat.le_refl _) _)) (by omega)).mono ?_; rintro e w1 ⟨x, rfl, hs1, hg1⟩
  have Hs1 := Lib.hid hs1; clear hs1
  go_wp2_with fail
  refine (one_any B g (k + 2) bs 2 _ Hs1.out (by omega)).mono ?_; rintro e w2 ⟨y, rfl, hs2, hg2⟩
  have Hs2 := Lib.hid hs2; clear hs2
  have hg := grown_trans hg1 hg2
  have hnb : w2.heap[w.heap.size]? = some (.cells #[.bool false, .bool false] 42 (0, 0)) := (hg.block w.heap.size (by simp) (by simp; omega)).trans (heap_alloc_new w _)
  obtain ⟨hn0, hn1, hn2, hn3⟩ := blk2 hnb
  have hs := w2.heap.size
  have hg0 := grown_setCell (grown_setCell (grown_from_alloc hg) (p := ⟨w.heap.size, 0, none⟩) (.inr (Nat.le_refl _)) (.bool x)) (p := ⟨w.heap.size, 1, none⟩) (.inr (Nat.le_refl _)) (.bool y)
  have hgs := grown_setCell (grown_setCell (⟨rfl, rfl, rfl, Nat.le_refl _, fun _ _ _ => rfl⟩ : w2.grownBy w2 (some w.heap.size)) (p := ⟨w.heap.size, 0, none⟩) (.inl rfl) (.bool x)) (p := ⟨w.heap.size, 1, none⟩) (.inl rfl) (.bool y)
  have Hs3 := Lib.hid (Hs2.out.grown hgs (fun z hz => by injection hz with hz; omega))
  have hc0 : ((w2.setCell ⟨w.heap.size, 0, none⟩ (.bool x)).setCell ⟨w.heap.size, 1, none⟩ (.bool y)).heap[w.heap.size]? = some (.cells #[.bool x, .bool y] 42 (0, 0)) :=
    heap_setCell_same _ _ 1 _ _ _ (heap_setCell_same _ _ 0 _ _ _ hnb)
  obtain ⟨hd0, hd1, _, _⟩ := blk2 hc0
  clear hnb hgs
  go_wp2_with fail
  exact bodyPost_ret (v := .agg #[.bool x, .bool y]) (by simp [results, Try.results51, go_sem, hd0, hd1]) rfl ⟨x, y, rfl, Hs3.out, hg0⟩

/-- three signals are handed back -/
def Drawn3 (w : World) (e : Ending) (w' : World) : Prop :=
  ∃ a b c d x y : Bool, e = .returned (.tuple #[.agg #[.bool a, .bool b], .agg #[.bool c, .bool d], .agg #[.bool x, .bool y]]) ∧ Below w.heap.size w w'

set_option maxRecDepth 100000 in
set_option maxHeartbeats 1000000 in
theorem A2Signals_any (B : Nat) (cv : Value) (bs : List UInt8) (w : World) (h : Rd w B cv bs.length 1 (bs.map byV)) (hB : B ≤ w.heap.size) :
    Calls Try.prog 30 #[cv] w (Drawn3 w) := by
  obtain ⟨w0, hw0⟩ : ∃ w0, w0 = ((w.alloc (.cells #[.bool false, .bool false] 42)).alloc (.cells #[.bool false, .bool false] 42)).alloc (.cells #[.bool false, .bool false] 42) := ⟨_, rfl⟩
  have hb0 : Below w.heap.size w w0 := hw0 ▸ (((Below.refl _ _).alloc (Nat.le_refl _) _).alloc (by simp) _).alloc (by simp; omega) _
  have Hw0 := Lib.hid hw0; clear hw0
  have H := Lib.hid (h.below (hb0.mono hB)); clear h
  go_enter Try.func30, Try.ntmps30
  go_wp2_with fail
  rw [← Hw0.out]
  refine (l00From_any B cv bs _ H.out (Nat.le_trans hB hb0.size)).mono ?_; rintro e w1 ⟨rfl, hs1, hb1, hz1⟩
  have hr : ∀ i, i < 3 → w0.heap[w.heap.size + i]? = some (.cells #[.bool false, .bool false] 42 (0, 0)) := by
    intro i hi
    rw [Hw0.out]
    show (((w.heap.push _).push _).push _)[w.heap.size + i]? = _
    simp only [Array.getElem?_push, Array.size_push]
    rcases (by omega : i = 0 ∨ i = 1 ∨ i = 2) with rfl | rfl | rfl <;> simp
  have hz0 : w0.heap.size = w.heap.size + 3 := by rw [Hw0.out]; simp
  have Hz0 := Lib.hid hz0; clear hz0
  have Hs1 := Lib.hid hs1; clear hs1
  go_wp2_with fail
  refine (l07Signal_any B _ 0 bs _ Hs1.out (by omega)).mono ?_; rintro e w2 ⟨x1, y1, rfl, hs2, hg2⟩
  have Hs2 := Lib.hid hs2; clear hs2
  have hz2 := hg2.size
  have hbk2 := (Below.refl w2.heap.size w2).alloc (Nat.le_refl _) (.cells #[.bool x1, .bool y1] 42)
  go_wp2_with fail
  refine (l07Signal_any B _ 4 bs _ (Hs2.out.below hbk2) (by omega)).mono ?_; rintro e w3 ⟨x2, y2, rfl, hs3, hg3⟩
  have Hs3 := Lib.hid hs3; clear hs3
  have hz3 : w2.heap.size < w3.heap.size := by have := hg3.size; simp at this; omega
  have hbk3 := (Below.refl w3.heap.size w3).alloc (Nat.le_refl _) (.cells #[.bool x2, .bool y2] 42)
  have hg13 := (grown_trans hg2 (grown_from_alloc hg3))
  have hg14 := grown_below hg13 hbk3
  have hc6 : (w3.alloc (.cells #[.bool x2, .bool y2] 42)).heap[w2.heap.size]? = some (.cells #[.bool x1, .bool y1] 42 (0, 0)) :=
    (hbk3.block _ hz3).trans ((hg3.block w2.heap.size (by simp) (by simp; omega)).trans (heap_alloc_new w2 _))
  have hc7 : (w3.alloc (.cells #[.bool x2, .bool y2] 42)).heap[w3.heap.size]? = some (.cells #[.bool x2, .bool y2] 42 (0, 0)) := heap_alloc_new w3 _
  obtain ⟨h60, h61, _, _⟩ := blk2 hc6
  obtain ⟨h70, h71, _, _⟩ := blk2 hc7
  have hrr : ∀ i, i < 3 → (w3.alloc (.cells #[.bool x2, .bool y2] 42)).heap[w.heap.size + i]? = some (.cells #[.bool false, .bool false] 42 (0, 0)) := fun i hi =>
    (hg14.block _ (by have := Hz0.out; omega) (by have := Hz0.out; simp; omega)).trans ((hb1.block _ (by have := Hz0.out; omega)).trans (hr i hi))
  have Hrr := Lib.hid hrr
  have Hb4 := Lib.hid ((hb0.trans (hb1.mono hb0.size)).trans (below_of_grown hg14 (by have := hb0.size; omega) (fun x hx => by injection hx with hx; have := hb0.size; omega)))
  have Hs4 := Lib.hid (Hs3.out.below hbk3)
  have Hc6 := Lib.hid hc6
  have Hc7 := Lib.hid hc7
  clear hr hrr hc6 hc7 hg14 hg13 hg2 hg3 hbk2 hbk3 hb1
  have hz4 : (w3.alloc (.cells #[.bool x2, .bool y2] 42)).heap.size = w3.heap.size + 1 := by simp
  have Hz4 := Lib.hid hz4; clear hz4
  go_wp2_with fail
  generalize w3.alloc (.cells #[.bool x2, .bool y2] 42) = w4 at *
  have n1 : ¬ w.heap.size = w2.heap.size := by have := Hz0.out; omega
  have n2 : ¬ w.heap.size + 1 = w2.heap.size := by have := Hz0.out; omega
  have n3 : ¬ w.heap.size + 1 + 1 = w2.heap.size := by have := Hz0.out; omega
  have n4 : ¬ w.heap.size = w3.heap.size := by have := Hz0.out; omega
  have n5 : ¬ w.heap.size + 1 = w3.heap.size := by have := Hz0.out; omega
  have n6 : ¬ w.heap.size + 1 + 1 = w3.heap.size := by have := Hz0.out; omega
  have hb6 : w2.heap.size < w4.heap.size := by have := Hz4.out; omega
  have hb7 : w3.heap.size < w4.heap.size := by have := Hz4.out; omega
  have hn6 : ¬ w2.heap.size = w0.heap.size := by omega
  have hn7 : ¬ w3.heap.size = w0.heap.size := by omega
  have hn8 : ∀ i, i < 3 → w.heap.size + i < w4.heap.size ∧ ¬ w.heap.size + i = w0.heap.size := fun i hi => ⟨by have := Hz0.out; omega, by have := Hz0.out; omega⟩
  have Hn8 := Lib.hid hn8; clear hn8
  go_region_held3 (fun w' => w'.cell? ⟨w2.heap.size, 0, none⟩ = some (.bool x1) ∧ w'.cell? ⟨w2.heap.size, 1, none⟩ = some (.bool y1) ∧ w'.cell? ⟨w3.heap.size, 0, none⟩ = some (.bool x2) ∧ w'.cell? ⟨w3.heap.size, 1, none⟩ = some (.bool y2))
    (go_keep)
    ((go_at_call 51; refine (l07Signal_any B _ 8 bs _ Hs4.out.drew (by omega)).mono ?_; rintro e w5 ⟨x3, y3, rfl, hs5, hg5⟩; obtain ⟨k60, k61, _, _⟩ := blk2 ((hg5.block _ hb6 (by simpa using hn6)).trans Hc6.out); obtain ⟨k70, k71, _, _⟩ := blk2 ((hg5.block _ hb7 (by simpa using hn7)).trans Hc7.out); obtain ⟨r00, r01, f00, f01⟩ := blk2 ((hg5.block _ (Hn8.out 0 (by omega)).1 (by simpa using (Hn8.out 0 (by omega)).2)).trans (Hrr.out 0 (by omega))); obtain ⟨r10, r11, f10, f11⟩ := blk2 ((hg5.block _ (Hn8.out 1 (by omega)).1 (by simpa using (Hn8.out 1 (by omega)).2)).trans (Hrr.out 1 (by omega))); obtain ⟨r20, r21, f20, f21⟩ := blk2 ((hg5.block _ (Hn8.out 2 (by omega)).1 (by simpa using (Hn8.out 2 (by omega)).2)).trans (Hrr.out 2 (by omega))); simp only [Nat.add_zero] at r00 r01 f00 f01; clear hs5))
  have hb5 : Below w.heap.size w w5 := Hb4.out.trans (below_of_grown (grown_undrew hg5) Hb4.out.size (fun x hx => by injection hx with hx; have := Hz0.out; omega))
  have hbe := (((((hb5.setCell (p := ⟨w.heap.size, 0, none⟩) (Nat.le_refl _) (.bool x1)).setCell (p := ⟨w.heap.size, 1, none⟩) (Nat.le_refl _) (.bool y1)).setCell (p := ⟨w.heap.size + 1, 0, none⟩) (Nat.le_succ _) (.bool x2)).setCell (p := ⟨w.heap.size + 1, 1, none⟩) (Nat.le_succ _) (.bool y2)).setCell (p := ⟨w.heap.size + 1 + 1, 0, none⟩) (by simp; omega) (.bool x3)).setCell (p := ⟨w.heap.size + 1 + 1, 1, none⟩) (by simp; omega) (.bool y3)
  have Hbe := Lib.hid hbe
  clear hbe hb5 hg5 n1 n2 n3 n4 n5 n6 hb6 hb7 hn6 hn7 k60 k61 k70 k71 h60 h61 h70 h71
  go_wp2_with fail
  exact bodyPost_ret (v := .tuple #[.agg #[.bool x1, .bool y1], .agg #[.bool x2, .bool y2], .agg #[.bool x3, .bool y3]]) (by simp [results, Try.results30, go_sem, r00, r01, r10, r11, r20, r21]) rfl ⟨x1, y1, x2, y2, x3, y3, rfl, Hbe.out⟩

set_option maxHeartbeats 400000 in
theorem a2Long_any (B1 B2 n m : Nat) (v1 v2 : Value) (xs ys : List Value) (w : World) (h1 : Rd w B1 v1 n 1 xs) (h2 : Rd w B2 v2 m 1 ys) :
    Calls Try.prog 29 #[v1, v2] w fun e w' => e = .returned (.bool (decide (3000 < n) || decide (3000 < m))) ∧ w = w' := by
  obtain ⟨_, A1, c1, rfl, _⟩ := h1
  obtain ⟨_, A2, c2, rfl, _⟩ := h2
  by_cases h : 3000 < n
  · have hh : (3000 : Int) < (n : Int) := by omega
    go_enter Try.func29, Try.ntmps29
    go_wp2
    go_ret
    simp [h]
  · by_cases h' : 3000 < m
    all_goals
      go_enter Try.func29, Try.ntmps29
      go_wp2
      go_ret
      simp [h, h']
      omega

set_option maxRecDepth 100000 in
set_option maxHeartbeats 400000 in
theorem a2At_any (B : Nat) (v : Value) (bs : List UInt8) (n : Int) (at_ : Int) (w : World) (h : Rd w B v bs.length 1 (bs.map byV)) (h0 : 0 ≤ at_) :
    Calls Try.prog 32 #[v, .int .i64 at_, .int .i64 n] w fun e w' => (∃ x, e = .returned (.int .i64 x) ∧ 0 ≤ x ∧ (1 ≤ n → x < n) ∧ (n < 1 → x = 0)) ∧ w = w' := by
  obtain ⟨_, A, c, rfl, h1⟩ := h
  have H1 := Lib.hid h1; clear h1
  by_cases h : at_ < bs.length
  · by_cases hn : n < 1
    · go_enter Try.func32, Try.ntmps32
      go_wp2
      go_ret
      exact ⟨⟨0, rfl, by omega, by omega, by omega⟩, rfl⟩
    · obtain ⟨k, rfl⟩ : ∃ k : Nat, at_ = k := ⟨at_.toNat, by omega⟩
      have hk : k < bs.length := by omega
      obtain ⟨b1, o1, rfl, _, hcc⟩ := H1.out (by omega)
      have hx := hcc k (byV bs[k]) (by simp [hk])
      clear hcc
      unfold byV at hx
      have hx8 := bs[k].toNat_lt
      generalize bs[k].toNat = x at *
      have hxb : (x : Int) < 256 := by omega
      clear hx8
      go_enter Try.func32, Try.ntmps32
      go_wp2
      go_ret
      have := Int.emod_nonneg (x : Int) (by omega : n ≠ 0)
      have := Int.emod_lt_of_pos (x : Int) (by omega : 0 < n)
      exact ⟨⟨_, rfl, by omega, by omega, by omega⟩, rfl⟩
  · have h' : (bs.length : Int) ≤ at_ := by omega
    go_enter Try.func32, Try.ntmps32
    go_wp2
    go_ret
    exact ⟨⟨0, rfl, by omega, by omega, by omega⟩, rfl⟩

theorem thr_join (a b c d : Bool) (x : Int) (h : x = 0 ∨ x = 1) : thr (jM a c d) (jP b d) x = thr c d (thr a b x) := by
  rcases h with rfl | rfl <;> cases a <;> cases b <;> cases c <;> cases d <;> rfl
theorem thr_01 (a b : Bool) (x : Int) : thr a b x = 0 ∨ thr a b x = 1 := by unfold thr; split <;> simp

end Go.Proofs.Ythdlepejbikofaa
