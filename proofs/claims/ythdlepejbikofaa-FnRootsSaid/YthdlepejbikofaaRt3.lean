/- Roots, part 3: the draws of FnRoots. -/
import Derived.Test.YthdlepejbikofaaOne
namespace Go.Proofs.Ythdlepejbikofaa
open Go.RowKit Go.Joins

/-- a draw of two numbers -/
def Drawn2 (w : World) (B g k : Nat) (bs : List UInt8) (e : Ending) (w' : World) : Prop :=
  ∃ x y : Int, e = .returned (.tuple #[.int .i64 x, .int .i64 y]) ∧ SrcAt w' B g k bs ∧ w.grownBy w' (some g)

set_option maxHeartbeats 400000 in
theorem among_any (B g k m : Nat) (l : List Int) (bs : List UInt8) (w : World) (h : SrcAt w B g k bs) (hk : k < 4611686018427387800) (hm : l.length = m) (hm2 : 2 ≤ m) (hm3 : m ≤ 200) :
    Calls Try.prog 62 #[.pointer (some ⟨g, 0, none⟩), .slice (some ⟨w.heap.size, 0, none⟩) m m] (w.alloc (.cells (l.map (Value.int .i64)).toArray 2)) fun e w' => ∃ x : Int, e = .returned (.int .i64 x) ∧ SrcAt w' B g (k + 2) bs ∧ w.grownBy w' (some g) := by
  have hlt := h.lt
  have hbk := (Below.refl w.heap.size w).alloc (Nat.le_refl _) (.cells (l.map (Value.int .i64)).toArray 2)
  have hnc : ∀ i (hi : i < l.length), (w.alloc (.cells (l.map (Value.int .i64)).toArray 2)).cell? ⟨w.heap.size, i, none⟩ = some (.int .i64 l[i]) := fun i hi => by
    have := new_cells w (l.map (Value.int .i64)).toArray 2 i (.int .i64 l[i]) (by simp [hi])
    rwa [show (⟨w.heap.size, 0, none⟩ : Addr).add i = ⟨w.heap.size, i, none⟩ by unfold Addr.add; split <;> simp_all] at this
  have H := Lib.hid (h.below hbk); clear h
  have Hc := Lib.hid hnc; clear hnc
  have Hg := Lib.hid (fun w' (h : (w.alloc (.cells (l.map (Value.int .i64)).toArray 2)).grownBy w' (some g)) => grown_from_alloc h)
  have hsz : w.heap.size < (w.alloc (.cells (l.map (Value.int .i64)).toArray 2)).heap.size := by simp
  have hm4 : (m : Int) ≤ 200 := by omega
  clear hbk
  generalize w.alloc (.cells (l.map (Value.int .i64)).toArray 2) = wl at *
  go_enter Try.func62, Try.ntmps62
  go_wp2_with fail
  refine (pick_any B g k bs m _ H.out (by omega)).mono ?_; rintro e w1 ⟨x, rfl, ⟨hx0, hx1, _⟩, hs1, hg1⟩
  have Hs1 := Lib.hid hs1; clear hs1
  obtain ⟨i, rfl⟩ : ∃ i : Nat, x = i := ⟨x.toNat, by omega⟩
  have hx2 := hx1 (by omega)
  have hi : i < l.length := by omega
  have hcell := (World.cell?_of_block (a := ⟨w.heap.size, i, none⟩) (hg1.block w.heap.size hsz (fun e => by injection e; omega))).trans (Hc.out i hi)
  have hg2 := Hg.out _ hg1
  generalize l[i] = z at *
  clear hx1 hg1
  go_wp2_with fail
  go_ret
  exact ⟨z, rfl, Hs1.out, hg2⟩

set_option maxHeartbeats 1000000 in
theorem l12Factor_any (B g k : Nat) (bs : List UInt8) (w : World) (h : SrcAt w B g k bs) (hk : k < 4611686018427387000) :
    Calls Try.prog 60 #[.pointer (some ⟨g, 0, none⟩)] w (Drawn2 w B g (k + 8) bs) := by
  have H := Lib.hid h; clear h
  go_enter Try.func60, Try.ntmps60
  go_wp2_with fail
  refine (one_any B g k bs 10 _ H.out (by omega)).mono ?_; rintro e w1 ⟨x, rfl, hs1, hg1⟩
  have Hs1 := Lib.hid hs1; clear hs1
  cases x with
  | true =>
    go_wp2_with fail
    refine (among_any B g (k + 2) 5 [1, 2, 10, 16, 17] bs w1 Hs1.out (by omega) rfl (by omega) (by omega)).mono ?_; rintro e w2 ⟨x, rfl, hs2, hg2⟩
    have hg12 := grown_trans hg1 hg2
    have Hs2 := Lib.hid hs2; clear hs2
    go_wp2_with fail
    refine (among_any B g (k + 4) 5 [-1, 0, 62500000, 62500001, -9223372036854775808] bs w2 Hs2.out (by omega) rfl (by omega) (by omega)).mono ?_; rintro e w3 ⟨y, rfl, hs3, hg3⟩
    have hg13 := grown_trans hg12 hg3
    have Hs3 := Lib.hid (hs3.more (k' := k + 8) (by omega)); clear hs3
    go_wp2_with fail
    go_ret2
    exact ⟨x, y, rfl, Hs3.out, hg13⟩
  | false =>
    go_wp2_with fail
    refine (among_any B g (k + 2) 6 [10, 10, 2, 3, 8, 12] bs w1 Hs1.out (by omega) rfl (by omega) (by omega)).mono ?_; rintro e w2 ⟨x, rfl, hs2, hg2⟩
    have hg12 := grown_trans hg1 hg2
    have Hs2 := Lib.hid hs2; clear hs2
    go_wp2_with fail
    refine (pick_any B g (k + 4) bs 100 _ Hs2.out (by omega)).mono ?_; rintro e w3 ⟨y, rfl, _, hs3, hg3⟩
    have hg13 := grown_trans hg12 hg3
    have Hs3 := Lib.hid hs3; clear hs3
    go_wp2_with fail
    refine (pick_any B g (k + 6) bs 20 _ Hs3.out (by omega)).mono ?_; rintro e w4 ⟨z, rfl, _, hs4, hg4⟩
    have hg14 := grown_trans hg13 hg4
    have Hs4 := Lib.hid hs4; clear hs4
    go_wp2_with fail
    go_ret2
    exact ⟨x, _, rfl, Hs4.out, hg14⟩

set_option maxHeartbeats 1000000 in
theorem l12DrawRoot_any (B g k : Nat) (bs : List UInt8) (w : World) (h : SrcAt w B g k bs) (hk : k < 4611686018427380000) :
    Calls Try.prog 54 #[.pointer (some ⟨g, 0, none⟩)] w (Drawn2 w B g (k + 20) bs) := by
  have H := Lib.hid h; clear h
  go_enter Try.func54, Try.ntmps54
  go_wp2_with fail
  refine (l12Factor_any B g k bs _ H.out (by omega)).mono ?_; rintro e w1 ⟨b, n, rfl, hs1, hg1⟩
  have Hs1 := Lib.hid hs1; clear hs1
  go_wp2_with fail
  refine (pick_any B g (k + 8) bs 6 _ Hs1.out (by omega)).mono ?_; rintro e w2 ⟨x, rfl, _, hs2, hg2⟩
  have hg12 := grown_trans hg1 hg2
  have Hs2 := Lib.hid hs2; clear hs2
  by_cases h0 : x = 0
  · subst h0
    go_wp2_with fail
    refine (among_any B g (k + 10) 5 [-1, 0, 1, 1000000000000, 1000000000001] bs w2 Hs2.out (by omega) rfl (by omega) (by omega)).mono ?_; rintro e w3 ⟨y, rfl, hs3, hg3⟩
    have hg13 := grown_trans hg12 hg3
    have Hs3 := Lib.hid (hs3.more (k' := k + 20) (by omega)); clear hs3
    go_wp2_with fail
    go_ret2
    exact ⟨b, y, rfl, Hs3.out, hg13⟩
  · have t0 : (x == 0) = false := by rw [beq_eq_false_iff_ne]; exact h0
    by_cases h1 : x = 1
    · subst h1
      go_wp2_with fail
      refine (pick_any B g (k + 10) bs 3000 _ Hs2.out (by omega)).mono ?_; rintro e w3 ⟨y, rfl, _, hs3, hg3⟩
      have hg13 := grown_trans hg12 hg3
      have Hs3 := Lib.hid hs3; clear hs3
      go_wp2_with fail
      refine (pick_any B g (k + 12) bs 3 _ Hs3.out (by omega)).mono ?_; rintro e w4 ⟨z, rfl, _, hs4, hg4⟩
      have hg14 := grown_trans hg13 hg4
      have Hs4 := Lib.hid (hs4.more (k' := k + 20) (by omega)); clear hs4
      go_wp2_with fail
      go_ret2
      exact ⟨b, _, rfl, Hs4.out, hg14⟩
    · have t1 : (x == 1) = false := by rw [beq_eq_false_iff_ne]; exact h1
      by_cases h2 : x = 2
      · subst h2
        go_wp2_with fail
        refine (pick_any B g (k + 10) bs 3000 _ Hs2.out (by omega)).mono ?_; rintro e w3 ⟨y, rfl, _, hs3, hg3⟩
        have hg13 := grown_trans hg12 hg3
        have Hs3 := Lib.hid hs3; clear hs3
        go_wp2_with fail
        refine (pick_any B g (k + 12) bs 3 _ Hs3.out (by omega)).mono ?_; rintro e w4 ⟨z, rfl, _, hs4, hg4⟩
        have hg14 := grown_trans hg13 hg4
        have Hs4 := Lib.hid (hs4.more (k' := k + 20) (by omega)); clear hs4
        go_wp2_with fail
        go_ret2
        exact ⟨b, _, rfl, Hs4.out, hg14⟩
      · have t2 : (x == 2) = false := by rw [beq_eq_false_iff_ne]; exact h2
        have Hs3 := Lib.hid (Hs2.out.more (k' := k + 20) (by omega))
        clear h0 h1 h2
        go_wp2_with fail
        go_ret2
        exact ⟨b, n, rfl, Hs3.out, hg12⟩

set_option maxHeartbeats 400000 in
theorem DrawRootOf_any (B : Nat) (cv : Value) (bs : List UInt8) (w : World) (h : Rd w B cv bs.length 1 (bs.map byV)) (hB : B ≤ w.heap.size) :
    Calls Try.prog 37 #[cv] w fun e w' => (∃ x y : Int, e = .returned (.tuple #[.int .i64 x, .int .i64 y])) ∧ Below w.heap.size w w' := by
  have H := Lib.hid h; clear h
  go_enter Try.func37, Try.ntmps37
  go_wp2_with fail
  refine (l00From_any B cv bs _ H.out hB).mono ?_; rintro e w1 ⟨rfl, hs1, hb1, hz1⟩
  have Hs1 := Lib.hid hs1; clear hs1
  go_wp2_with fail
  refine (l12DrawRoot_any B w.heap.size 0 bs _ Hs1.out (by omega)).mono ?_; rintro e w2 ⟨x, y, rfl, _, hg⟩
  have hb2 := hb1.trans (below_of_grown hg hb1.size (fun x hx => by injection hx with hx; omega))
  go_wp2_with fail
  go_ret2
  exact ⟨⟨x, y, rfl⟩, hb2⟩
end Go.Proofs.Ythdlepejbikofaa
