/- Errors of tables, part 6: draws. -/
import Derived.Test.YtdljlemgaefbpaaU5
import Derived.Test.YtdljlemgaefbpaaDr1
namespace Go.Proofs.Ytdljlemgaefbpaa
open Go.RowKit Go.Joins

theorem own_gs {wr w2 : World} {gs B n sz : Nat} {e : TypeId} {v : Value} {xs : List Value} (h : wr.ownsRow B e sz v n xs) (h2 : wr.grownBy w2 (some gs)) (hgs : gs < B) : w2.ownsRow B e sz v n xs :=
  h.kept h2 (.inr (fun e => by have := (h.lt gs e).1; omega))
theorem grown_own {w w1 w2 : World} {g n sz : Nat} {e : TypeId} {v : Value} {xs : List Value} (h : w.grownBy w1 (some g)) (ho : w1.ownsRow w.heap.size e sz v n xs) (h2 : w1.grownBy w2 v.ownBlock) : w.grownBy w2 (some g) :=
  ⟨h2.os.trans h.os, h2.tape.trans h.tape, h2.output.trans h.output, Nat.le_trans h.size h2.size, fun i hi hne => (h2.block i (Nat.lt_of_lt_of_le hi h.size) (fun e => by have := (ho.lt i e.symm).1; omega)).trans (h.block i hi hne)⟩
theorem grown_set (w' : World) (g i : Nat) (v : Value) : w'.grownBy (w'.setCell ⟨g, i, none⟩ v) (some g) :=
  ⟨rfl, rfl, rfl, by simp [World.setCell], fun i _ hi => Below.heap_setCell _ _ _ _ (fun e => hi (by rw [e]))⟩
theorem grown_refl (w : World) (r : Option Nat) : w.grownBy w r := ⟨rfl, rfl, rfl, Nat.le_refl _, fun _ _ _ => rfl⟩

theorem l17DrawValue_c (B g k : Nat) (bs : List UInt8) (w : World) (h : SrcAt w B g k bs) (hk : k < 4611686018427387000) : Calls Try.prog 107 #[.pointer (some ⟨g, 0, none⟩)] w (Drawn w B g (k + 8) bs (fun _ => True)) := by
  have H := Lib.hid h
  clear h
  go_enter Try.func107, Try.ntmps107
  go_wp2_with fail
  refine (one_any B g k bs 20 _ H.out (by omega)).mono ?_; rintro e w1 ⟨x, rfl, hs1, hg1⟩
  have Hs1 := Lib.hid hs1
  have Hg1 := Lib.hid hg1
  clear hs1 hg1
  cases x with
  | true =>
    go_wp2_with fail
    refine (among_in B g (k + 2) 5 [-1000000000001, -1000000000000, 1000000000000, 1000000000001, -9223372036854775808] bs w1 Hs1.out (by omega) rfl (by omega) (by omega)).mono ?_; rintro e w2 ⟨x, _, rfl, hs2, hg2⟩
    have Hf := Lib.hid (And.intro (hs2.more (show k + 2 + 2 ≤ k + 8 by omega)) (grown_trans Hg1.out hg2))
    clear hs2 hg2
    go_wp2_with fail
    go_ret
    exact ⟨x, rfl, trivial, Hf.out.1, Hf.out.2⟩
  | false =>
    go_wp2_with fail
    refine (pick_any B g (k + 2) bs 2000 _ Hs1.out (by omega)).mono ?_; rintro e w2 ⟨x, rfl, _, hs2, hg2⟩
    have Hs2 := Lib.hid hs2
    have Hg2 := Lib.hid (grown_trans Hg1.out hg2)
    clear hs2 hg2
    go_wp2_with fail
    refine (pick_any B g (k + 2 + 2) bs 3 _ Hs2.out (by omega)).mono ?_; rintro e w3 ⟨y, rfl, _, hs3, hg3⟩
    have Hs3 := Lib.hid hs3
    have Hg3 := Lib.hid (grown_trans Hg2.out hg3)
    clear hs3 hg3
    go_wp2_with fail
    refine (pick_any B g (k + 2 + 2 + 2) bs 100 _ Hs3.out (by omega)).mono ?_; rintro e w4 ⟨z, rfl, _, hs4, hg4⟩
    have Hf := Lib.hid (And.intro (hs4.more (show k + 2 + 2 + 2 + 2 ≤ k + 8 by omega)) (grown_trans Hg3.out hg4))
    clear hs4 hg4
    go_wp2_with fail
    go_ret
    exact ⟨_, rfl, trivial, Hf.out.1, Hf.out.2⟩
theorem l17DrawUnit_c (B g k : Nat) (bs : List UInt8) (w : World) (h : SrcAt w B g k bs) (hk : k < 4611686018427387000) : Calls Try.prog 108 #[.pointer (some ⟨g, 0, none⟩)] w (Drawn w B g (k + 4) bs (fun _ => True)) := by
  have H := Lib.hid h
  clear h
  go_enter Try.func108, Try.ntmps108
  go_wp2_with fail
  refine (one_any B g k bs 12 _ H.out (by omega)).mono ?_; rintro e w1 ⟨x, rfl, hs1, hg1⟩
  have Hs1 := Lib.hid hs1
  have Hg1 := Lib.hid hg1
  clear hs1 hg1
  cases x with
  | true =>
    go_wp2_with fail
    refine (among_in B g (k + 2) 6 [-1, 0, 1, 1000000, 1000001, 9223372036854775807] bs w1 Hs1.out (by omega) rfl (by omega) (by omega)).mono ?_; rintro e w2 ⟨x, _, rfl, hs2, hg2⟩
    have Hf := Lib.hid (And.intro hs2 (grown_trans Hg1.out hg2))
    clear hs2 hg2
    go_wp2_with fail
    go_ret
    exact ⟨x, rfl, trivial, Hf.out.1, Hf.out.2⟩
  | false =>
    go_wp2_with fail
    refine (among_in B g (k + 2) 7 [1, 2, 3, 10, 10, 100, 7] bs w1 Hs1.out (by omega) rfl (by omega) (by omega)).mono ?_; rintro e w2 ⟨x, _, rfl, hs2, hg2⟩
    have Hf := Lib.hid (And.intro hs2 (grown_trans Hg1.out hg2))
    clear hs2 hg2
    go_wp2_with fail
    go_ret
    exact ⟨x, rfl, trivial, Hf.out.1, Hf.out.2⟩
theorem l17DrawSteps_c (B g k : Nat) (bs : List UInt8) (w : World) (h : SrcAt w B g k bs) (hk : k < 4611686018427387000) : Calls Try.prog 101 #[.pointer (some ⟨g, 0, none⟩)] w (Drawn w B g (k + 4) bs (fun _ => True)) := by
  have H := Lib.hid h
  clear h
  go_enter Try.func101, Try.ntmps101
  go_wp2_with fail
  refine (one_any B g k bs 8 _ H.out (by omega)).mono ?_; rintro e w1 ⟨x, rfl, hs1, hg1⟩
  have Hs1 := Lib.hid hs1
  have Hg1 := Lib.hid hg1
  clear hs1 hg1
  cases x with
  | true =>
    go_wp2_with fail
    refine (among_in B g (k + 2) 5 [-1, 0, 1000, 100000, 100001] bs w1 Hs1.out (by omega) rfl (by omega) (by omega)).mono ?_; rintro e w2 ⟨x, _, rfl, hs2, hg2⟩
    have Hf := Lib.hid (And.intro hs2 (grown_trans Hg1.out hg2))
    clear hs2 hg2
    go_wp2_with fail
    go_ret
    exact ⟨x, rfl, trivial, Hf.out.1, Hf.out.2⟩
  | false =>
    go_wp2_with fail
    refine (pick_any B g (k + 2) bs 60 _ Hs1.out (by omega)).mono ?_; rintro e w2 ⟨x, rfl, _, hs2, hg2⟩
    have Hf := Lib.hid (And.intro hs2 (grown_trans Hg1.out hg2))
    clear hs2 hg2
    go_wp2_with fail
    go_ret
    exact ⟨x, rfl, trivial, Hf.out.1, Hf.out.2⟩
def Drawn2 (w : World) (B g k : Nat) (bs : List UInt8) (e : Ending) (w' : World) : Prop :=
  ∃ x y, e = .returned (.tuple #[.int .i64 x, .int .i64 y]) ∧ SrcAt w' B g k bs ∧ w.grownBy w' (some g)
theorem l17DrawOrder_c (B g k : Nat) (bs : List UInt8) (w : World) (h : SrcAt w B g k bs) (hk : k < 4611686018427387000) : Calls Try.prog 103 #[.pointer (some ⟨g, 0, none⟩)] w (Drawn2 w B g (k + 6) bs) := by
  have H := Lib.hid h
  clear h
  go_enter Try.func103, Try.ntmps103
  go_wp2_with fail
  refine (one_any B g k bs 10 _ H.out (by omega)).mono ?_; rintro e w1 ⟨x, rfl, hs1, hg1⟩
  have Hs1 := Lib.hid hs1
  have Hg1 := Lib.hid hg1
  clear hs1 hg1
  cases x with
  | true =>
    go_wp2_with fail
    refine (among_in B g (k + 2) 4 [-1, 0, 8, 9] bs w1 Hs1.out (by omega) rfl (by omega) (by omega)).mono ?_; rintro e w2 ⟨x, _, rfl, hs2, hg2⟩
    have Hs2 := Lib.hid hs2
    have Hg2 := Lib.hid (grown_trans Hg1.out hg2)
    clear hs2 hg2
    go_wp2_with fail
    refine (among_in B g (k + 2 + 2) 4 [-1, 0, 1000000, 1000001] bs w2 Hs2.out (by omega) rfl (by omega) (by omega)).mono ?_; rintro e w3 ⟨y, _, rfl, hs3, hg3⟩
    have Hf := Lib.hid (And.intro hs3 (grown_trans Hg2.out hg3))
    clear hs3 hg3
    go_wp2_with fail
    go_ret2
    exact ⟨x, y, rfl, Hf.out.1, Hf.out.2⟩
  | false =>
    go_wp2_with fail
    refine (pick_any B g (k + 2) bs 9 _ Hs1.out (by omega)).mono ?_; rintro e w2 ⟨x, rfl, _, hs2, hg2⟩
    have Hs2 := Lib.hid hs2
    have Hg2 := Lib.hid (grown_trans Hg1.out hg2)
    clear hs2 hg2
    go_wp2_with fail
    refine (pick_any B g (k + 2 + 2) bs 50 _ Hs2.out (by omega)).mono ?_; rintro e w3 ⟨y, rfl, _, hs3, hg3⟩
    have Hf := Lib.hid (And.intro hs3 (grown_trans Hg2.out hg3))
    clear hs3 hg3
    go_wp2_with fail
    go_ret2
    exact ⟨x, y, rfl, Hf.out.1, Hf.out.2⟩
/-- a list is drawn -/
def DrawnL (M : Nat) (w : World) (B g k : Nat) (bs : List UInt8) (e : Ending) (w' : World) : Prop :=
  ∃ v n f, e = .returned v ∧ n ≤ M ∧ w'.ownsRow w.heap.size 2 1 v n (tab n f) ∧ SrcAt w' B g k bs ∧ w.grownBy w' (some g)
theorem tab_more (n : Nat) (f : Nat → Int) (x : Int) : ∃ f', tab (n + 1) f' = tab n f ++ [.int .i64 x] := ⟨fun i => if i < n then f i else x, by
  rw [tab_succ, if_neg (by omega)]
  congr 1
  exact tab_congr fun i hi => by rw [if_pos hi]⟩
set_option maxRecDepth 100000 in
set_option maxHeartbeats 1600000 in
theorem l17Values_c (B g k : Nat) (bs : List UInt8) (w : World) (h : SrcAt w B g k bs) (hk : k < 4611686018427380000) : Calls Try.prog 115 #[.pointer (some ⟨g, 0, none⟩)] w (DrawnL 201 w B g (k + 70) bs) := by
  have hgl := h.lt
  have hb0 := Lib.hid ((Below.refl w.heap.size w).alloc (Nat.le_refl _) (.cells #[] 2))
  have ho0 := Lib.hid (World.ownsRow_made (base := w.heap.size) (e := 2) (size := 1) w #[] 0 (Nat.le_refl _) (by simp [maxLen]) rfl)
  have Hg0 := Lib.hid (grown_of_below hb0.out (some g))
  have Hs0 := Lib.hid (h.below hb0.out)
  clear h hb0
  go_enter Try.func115, Try.ntmps115
  go_wp2_with fail
  refine (pick_any B g k bs 8 _ Hs0.out (by omega)).mono ?_; rintro e w1 ⟨r, rfl, ⟨hr0, hr1, _⟩, hs1, hg1⟩
  have hr8 := hr1 (by omega)
  have Hs1 := Lib.hid hs1
  have Hg1 := Lib.hid (grown_trans Hg0.out hg1)
  have Ho1 := Lib.hid (own_gs ho0.out hg1 hgl)
  obtain ⟨m, rfl⟩ : ∃ m : Nat, r = (m : Int) := ⟨r.toNat, by omega⟩
  clear hs1 hg1 hr1 hr0
  go_wp2_with fail
  go_loopw [3, 4] (fun a i wr => ∃ (j q : Nat) (f : Nat → Int), j + q = m ∧ i = .int .i64 (q : Int) ∧ SrcAt wr B g (k + 2 + 8 * j) bs ∧ wr.ownsRow w.heap.size 2 1 a j (tab j f) ∧ w.grownBy wr (some g)) (fun _ i _ => (intOf i).toNat)
  case atStart => exact ⟨0, m, fun _ => 0, by omega, rfl, Hs1.out, Ho1.out, Hg1.out⟩
  case round =>
    obtain ⟨j, q, f, hjq, rfl, hs, hown, hg⟩ := hrel
    obtain ⟨A3, c3, rfl⟩ := own_sl hown
    have Hs := Lib.hid hs
    have Hown := Lib.hid hown
    have Hg := Lib.hid hg
    have Hjq := Lib.hid hjq
    have hjm : j ≤ 8 := by omega
    clear hs hown hg hjq
    by_cases hq : q = 0
    · subst hq
      go_wp2_with fail
      refine (one_any B g (k + 2 + 8 * j) bs 24 _ Hs.out (by omega)).mono ?_; rintro e w2 ⟨x, rfl, hs2, hg2⟩
      have Hs2 := Lib.hid hs2
      have Hg2 := Lib.hid (grown_trans Hg.out hg2)
      have Ho2 := Lib.hid (own_gs Hown.out hg2 hgl)
      clear hs2 hg2
      cases x with
      | false =>
        go_wp2_with fail
        go_ret
        exact ⟨_, j, f, rfl, by omega, Ho2.out, Hs2.out.more (by omega), Hg2.out⟩
      | true =>
        go_wp2_with fail
        refine (pick_any B g (k + 2 + 8 * j + 2) bs 2 _ Hs2.out (by omega)).mono ?_; rintro e w3 ⟨y, rfl, ⟨hy0, hy1, _⟩, hs3, hg3⟩
        have hy2 := hy1 (by omega)
        obtain ⟨N, hN⟩ : ∃ N : Nat, 200 + y = (N : Int) := ⟨(200 + y).toNat, by omega⟩
        have hyw : IntKind.i64.wrap (200 + y) = (N : Int) := by rw [IntWalk.i64_in _ (by omega)]; exact hN
        have hN2 : N ≤ 201 := by omega
        obtain ⟨wm, hm, hom, hbm⟩ := mk_ints N (by omega) w3
        have Hf := Lib.hid (And.intro (hs3.below hbm) (grown_below (grown_trans Hg2.out hg3) hbm))
        have Hom := Lib.hid (ownsRow_le hom (Nat.le_trans Hg2.out.size hg3.size))
        clear hs3 hg3 hom hbm hy1
        go_wp2_with fail
        go_ret
        exact ⟨_, N, fun _ => 0, rfl, hN2, Hom.out, Hf.out.1.more (by omega), Hf.out.2⟩
    · have hq' : (0 : Int) < (q : Int) := by omega
      have hq9 : (q : Int) ≤ 8 := by have := Hjq.out; omega
      go_wp2_with fail
      refine (l17DrawValue_c B g (k + 2 + 8 * j) bs _ Hs.out (by omega)).mono ?_; rintro e w2 ⟨x, rfl, _, hs2, hg2⟩
      have Hs2 := Lib.hid hs2
      have hg3 := grown_trans Hg.out hg2
      have Hg2 := Lib.hid hg3
      have hz2 := hg3.size
      have Ho2 := Lib.hid (own_gs Hown.out hg2 hgl)
      obtain ⟨f', hf'⟩ := tab_more j f x
      have Hf' := Lib.hid hf'
      clear hs2 hg2 hg3 hf'
      go_wp2_with (at_builtin; refine wpList_apd 24 2 _ 1 8 Try.underlying24 infoD rfl (by omega) _ _ rfl rfl w.heap.size _ j _ rfl Ho2.out #[.int .i64 x] 1 1 rfl rfl (by simp [Value.oneCell']) (by simp [maxLen]; omega) (by omega) hz2 ?_; intro v7 w7 hown7 hg7; have Hg7 := Lib.hid (grown_own Hg2.out Ho2.out hg7); obtain ⟨A7, c7, rfl⟩ := own_sl hown7; have Hown7 := Lib.hid hown7; have Hs7 := Lib.hid (Hs2.out.grown hg7 (fun z hz => by have := (Ho2.out.lt z hz).1; omega)); clear hown7 hg7)
      go_roundw
      case rel => exact ⟨j + 1, q - 1, f', by have := Hjq.out; omega, by congr 1; omega, Hs7.out, by rw [Hf'.out]; exact Hown7.out, Hg7.out⟩
      case measure => simp [intOf]; omega
set_option maxRecDepth 100000 in
set_option maxHeartbeats 1600000 in
theorem l17DrawSlips_c (B g k : Nat) (bs : List UInt8) (w : World) (h : SrcAt w B g k bs) (hk : k < 4611686018427380000) : Calls Try.prog 91 #[.pointer (some ⟨g, 0, none⟩)] w (DrawnL 10 w B g (k + 20) bs) := by
  have hgl := h.lt
  have hb0 := Lib.hid ((Below.refl w.heap.size w).alloc (Nat.le_refl _) (.cells #[] 2))
  have ho0 := Lib.hid (World.ownsRow_made (base := w.heap.size) (e := 2) (size := 1) w #[] 0 (Nat.le_refl _) (by simp [maxLen]) rfl)
  have Hb := Lib.hid (fun (w2 : World) (h2 : w.grownBy w2 (some g)) => And.intro (grown_below h2 ((Below.refl w2.heap.size w2).alloc (Nat.le_refl _) (.cells #[] 2))) (World.ownsRow_made (base := w.heap.size) (e := 2) (size := 1) w2 #[] 0 h2.size (by simp [maxLen]) rfl))
  have Hg0 := Lib.hid (grown_of_below hb0.out (some g))
  have Hs0 := Lib.hid (h.below hb0.out)
  clear h hb0
  go_enter Try.func91, Try.ntmps91
  go_wp2_with fail
  refine (pick_any B g k bs 4 _ Hs0.out (by omega)).mono ?_; rintro e w1 ⟨r, rfl, ⟨hr0, hr1, _⟩, hs1, hg1⟩
  have hr4 := hr1 (by omega)
  have Hs1 := Lib.hid hs1
  have Hg1 := Lib.hid (grown_trans Hg0.out hg1)
  have Ho1 := Lib.hid (own_gs ho0.out hg1 hgl)
  obtain ⟨m, rfl⟩ : ∃ m : Nat, r = (m : Int) := ⟨r.toNat, by omega⟩
  clear hs1 hg1 hr1 hr0
  go_wp2_with fail
  go_loopw [3, 4] (fun a i wr => ∃ (j q : Nat) (f : Nat → Int), j + q = m + 1 ∧ i = .int .i64 (q : Int) ∧ SrcAt wr B g (k + 2 + 2 * j) bs ∧ wr.ownsRow w.heap.size 2 1 a j (tab j f) ∧ w.grownBy wr (some g)) (fun _ i _ => (intOf i).toNat)
  case atStart => exact ⟨0, m + 1, fun _ => 0, by omega, by congr 1; omega, Hs1.out, Ho1.out, Hg1.out⟩
  case round =>
    obtain ⟨j, q, f, hjq, rfl, hs, hown, hg⟩ := hrel
    have Hs := Lib.hid hs
    have Hg := Lib.hid hg
    have hjm : j ≤ 4 := by omega
    by_cases hq : q = 0
    · subst hq
      obtain ⟨ga, ca, rfl, _, _⟩ := own_posC hown (by omega)
      have hj1 : 1 ≤ j := by omega
      have Hown := Lib.hid hown
      clear hs hown hg hjq
      go_wp2_with fail
      refine (pick_any B g (k + 2 + 2 * j) bs 16 _ Hs.out (by omega)).mono ?_; rintro e w2 ⟨x, rfl, _, hs2, hg2⟩
      have Hs2 := Lib.hid hs2
      have Hg2 := Lib.hid (grown_trans Hg.out hg2)
      have Ho2 := Lib.hid (own_gs Hown.out hg2 hgl)
      clear hs2 hg2
      by_cases c0 : x = 0
      · subst c0
        go_wp2_with fail
        refine (among_in B g (k + 2 + 2 * j + 2) 4 [-1, 0, 1000000, 1000001] bs w2 Hs2.out (by omega) rfl (by omega) (by omega)).mono ?_; rintro e w3 ⟨y, _, rfl, hs3, hg3⟩
        have ho3 := own_gs Ho2.out hg3 hgl
        obtain ⟨d0, d1⟩ := own_cellD ho3 0 (by omega)
        have hga := (ho3.lt ga rfl).1
        have ho4 := (ho3.stored 0 (.int .i64 y)).1
        rw [tab_set] at ho4
        have Ho4 := Lib.hid ho4
        have Hs4 := Lib.hid (hs3.grown (grown_set w3 ga 0 (.int .i64 y)) (fun z hz => by cases hz; omega))
        have Hg4 := Lib.hid (grown_own (grown_trans Hg2.out hg3) ho3 (grown_set w3 ga 0 (.int .i64 y)))
        clear hs3 hg3 ho3 ho4
        go_wp2_with fail
        go_ret
        exact ⟨_, j, put f 0 y, rfl, by omega, Ho4.out, Hs4.out.more (by omega), Hg4.out⟩
      · have e0 : (x == 0) = false := by simp [c0]
        by_cases c1 : x = 1
        · subst c1
          go_wp2_with fail
          refine (pick_any B g (k + 2 + 2 * j + 2) bs 2 _ Hs2.out (by omega)).mono ?_; rintro e w3 ⟨y, rfl, ⟨hy0, hy1, _⟩, hs3, hg3⟩
          have hy2 := hy1 (by omega)
          obtain ⟨N, hN⟩ : ∃ N : Nat, 9 + y = (N : Int) := ⟨(9 + y).toNat, by omega⟩
          have hyw : IntKind.i64.wrap (9 + y) = (N : Int) := by rw [IntWalk.i64_in _ (by omega)]; exact hN
          have hN2 : N ≤ 10 := by omega
          have hN1 : 9 ≤ N := by omega
          obtain ⟨wm, hm, hom, hbm⟩ := mk_ints N (by omega) w3
          have Hsm := Lib.hid (hs3.below hbm)
          have Hgm := Lib.hid (grown_below (grown_trans Hg2.out hg3) hbm)
          have Hom := Lib.hid (ownsRow_le hom (Nat.le_trans Hg2.out.size hg3.size))
          clear hs3 hg3 hom hbm hy1
          have hN3 : (9 : Int) ≤ (N : Int) := by omega
          go_wp2_with fail
          refine (pick_any B g (k + 2 + 2 * j + 2 + 2) bs 2 _ Hsm.out (by omega)).mono ?_; rintro e w4 ⟨z, rfl, _, hs4, hg4⟩
          have ho4 := own_gs Hom.out hg4 hgl
          obtain ⟨d0, d1⟩ := own_cellD ho4 (N - 1) (by omega)
          have hga := (ho4.lt w3.heap.size rfl).1
          have ho5 := (ho4.stored (N - 1) (.int .i64 z)).1
          rw [tab_set] at ho5
          have Ho5 := Lib.hid ho5
          have Hs5 := Lib.hid (hs4.grown (grown_set w4 w3.heap.size (N - 1) (.int .i64 z)) (fun z hz => by cases hz; omega))
          have Hg5 := Lib.hid (grown_own (grown_trans Hgm.out hg4) ho4 (grown_set w4 w3.heap.size (N - 1) (.int .i64 z)))
          clear hs4 hg4 ho4 ho5
          go_wp2_with fail
          go_ret
          exact ⟨_, N, put (fun _ => 0) (N - 1) z, rfl, hN2, Ho5.out, Hs5.out.more (by omega), Hg5.out⟩
        · have e1 : (x == 1) = false := by simp [c1]
          by_cases c2 : x = 2
          · subst c2
            have Hbw := Lib.hid (Hb.out w2 Hg2.out)
            have Hs3 := Lib.hid (Hs2.out.below ((Below.refl w2.heap.size w2).alloc (Nat.le_refl _) (.cells #[] 2)))
            go_wp2_with fail
            go_ret
            exact ⟨_, 0, fun _ => 0, rfl, by omega, Hbw.out.2, Hs3.out.more (by omega), Hbw.out.1⟩
          · have e2 : (x == 2) = false := by simp [c2]
            go_wp2_with fail
            go_ret
            exact ⟨_, j, f, rfl, by omega, Ho2.out, Hs2.out.more (by omega), Hg2.out⟩
    · obtain ⟨A3, c3, rfl⟩ := own_sl hown
      have Hown := Lib.hid hown
      have Hjq := Lib.hid hjq
      have hq' : (0 : Int) < (q : Int) := by omega
      have hq9 : (q : Int) ≤ 5 := by omega
      clear hs hown hg hjq
      go_wp2_with fail
      refine (pick_any B g (k + 2 + 2 * j) bs 6 _ Hs.out (by omega)).mono ?_; rintro e w2 ⟨x, rfl, _, hs2, hg2⟩
      have Hs2 := Lib.hid hs2
      have hg3 := grown_trans Hg.out hg2
      have Hg2 := Lib.hid hg3
      have hz2 := hg3.size
      have Ho2 := Lib.hid (own_gs Hown.out hg2 hgl)
      obtain ⟨f', hf'⟩ := tab_more j f x
      have Hf' := Lib.hid hf'
      clear hs2 hg2 hg3 hf'
      go_wp2_with (at_builtin; refine wpList_apd 24 2 _ 1 8 Try.underlying24 infoD rfl (by omega) _ _ rfl rfl w.heap.size _ j _ rfl Ho2.out #[.int .i64 x] 1 1 rfl rfl (by simp [Value.oneCell']) (by simp [maxLen]; omega) (by omega) hz2 ?_; intro v7 w7 hown7 hg7; have Hg7 := Lib.hid (grown_own Hg2.out Ho2.out hg7); obtain ⟨A7, c7, rfl⟩ := own_sl hown7; have Hown7 := Lib.hid hown7; have Hs7 := Lib.hid (Hs2.out.grown hg7 (fun z hz => by have := (Ho2.out.lt z hz).1; omega)); clear hown7 hg7)
      go_roundw
      case rel => exact ⟨j + 1, q - 1, f', by have := Hjq.out; omega, by congr 1; omega, Hs7.out, by rw [Hf'.out]; exact Hown7.out, Hg7.out⟩
      case measure => simp [intOf]; omega
end Go.Proofs.Ytdljlemgaefbpaa
