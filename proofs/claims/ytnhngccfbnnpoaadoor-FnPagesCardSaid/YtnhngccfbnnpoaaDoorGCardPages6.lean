/- Merged texts: Pa6. -/
import Derived.Test.YtnhngccfbnnpoaaDoorGCardPages5
/- Printed pages, part 6: a page's head, read, both sides (gen_pa6.py). -/
namespace Go.Proofs.YtnhngccfbnnpoaaDoor
open Go.RowKit Go.Joins

/-- a page in a block of its own, none in it: ahead of the store -/
theorem res4A_pre {w w2 : World} {x y z u : Value} {t : TypeId} (h : Below (w.alloc (.cells #[x, y, z, u] t)).heap.size (w.alloc (.cells #[x, y, z, u] t)) w2) :
    (w2.cell? ⟨w.heap.size, 0, none⟩ = some x ∧ w2.cell? ⟨w.heap.size, 1, none⟩ = some y ∧ w2.cell? ⟨w.heap.size, 2, none⟩ = some z ∧ w2.cell? ⟨w.heap.size, 3, none⟩ = some u) ∧
    (w2.frozen? ⟨w.heap.size, 0, none⟩ = false ∧ w2.frozen? ⟨w.heap.size, 1, none⟩ = false ∧ w2.frozen? ⟨w.heap.size, 2, none⟩ = false ∧ w2.frozen? ⟨w.heap.size, 3, none⟩ = false) := by
  obtain ⟨h0, h1, h2, h3, h4⟩ := blk4 ((h.block w.heap.size (by simp)).trans (heap_alloc_new w _))
  exact ⟨⟨h0, h1, h2, h3⟩, h4 0, h4 1, h4 2, h4 3⟩
abbrev put4A (w : World) (r : Nat) (a b c d : Value) : World := (((w.setCell ⟨r, 0, none⟩ a).setCell ⟨r, 1, none⟩ b).setCell ⟨r, 2, none⟩ c).setCell ⟨r, 3, none⟩ d
theorem res4A_post {w w2 : World} {x y z u : Value} {t : TypeId} (h : Below (w.alloc (.cells #[x, y, z, u] t)).heap.size (w.alloc (.cells #[x, y, z, u] t)) w2) (a b c d : Value) :
    ((put4A w2 w.heap.size a b c d).cell? ⟨w.heap.size, 0, none⟩ = some a ∧ (put4A w2 w.heap.size a b c d).cell? ⟨w.heap.size, 1, none⟩ = some b ∧ (put4A w2 w.heap.size a b c d).cell? ⟨w.heap.size, 2, none⟩ = some c ∧ (put4A w2 w.heap.size a b c d).cell? ⟨w.heap.size, 3, none⟩ = some d) ∧
    Below w.heap.size w (put4A w2 w.heap.size a b c d) := by
  obtain ⟨h0, h1, h2, h3, _⟩ := blk4 (set4 ((h.block w.heap.size (by simp)).trans (heap_alloc_new w _)) a b c d)
  refine ⟨⟨h0, h1, h2, h3⟩, ?_⟩
  have h0 : Below w.heap.size w w2 := ((Below.refl w.heap.size w).alloc (Nat.le_refl _) _).trans (h.mono (by simp))
  exact set4_below h0 (Nat.le_refl _) a b c d
theorem hdOk_toNat (s : ByteArray) (a b r : Int) (h : inB r 1 60 = false) : hdOk s a b r.toNat = false := by
  have e : inB (r.toNat : Int) 1 60 = false := by
    cases e : inB (r.toNat : Int) 1 60 with
    | false => rfl
    | true =>
      have := inB_iff.1 e
      have e2 : inB r 1 60 = true := inB_iff.2 (by omega)
      rw [h] at e2; cases e2
  unfold hdOk
  rw [e]
  simp
set_option maxRecDepth 100000 in
set_option maxHeartbeats 1600000 in
theorem validHeadR_c (s : ByteArray) (a b r : Int) (A : Option Addr) (m c : Nat) (w : World) (hs : s.size ≤ 1048576) :
    Calls Tryd.prog 57 #[.agg #[.string s, .int .i64 a, .int .i64 b, .slice A m c], .int .i64 r] w fun e w' => e = .returned (.bool (hdOk s a b r.toNat)) ∧ Below w.heap.size w w' := by
  have hb1 := (Below.refl w.heap.size w).alloc (Nat.le_refl _) (.cells #[.string s, .int .i64 a, .int .i64 b, .slice A m c] 26)
  have Hb1 := Lib.hid hb1
  obtain ⟨f0, f1, f2, f3, _⟩ := blk4 (heap_alloc_new w (.cells #[.string s, .int .i64 a, .int .i64 b, .slice A m c] 26))
  have HN := Lib.hid (fun wx => IsNameI_any s wx hs)
  have HB := Lib.hid (fun wx => between_any b 1 1000 wx)
  have HM := Lib.hid (fun wx => between_any r 1 60 wx)
  have HA := Lib.hid (fun wx => between_any a (-1000000) 1000000 wx)
  have HG := Lib.hid (fun wx ha hP => argument_c s a b (r - 1) A m c wx ha hP)
  clear hb1
  cases h1 : isNm s.data.toList with
  | false =>
    have E := Lib.hid (show hdOk s a b r.toNat = false by unfold hdOk; rw [h1]; rfl)
    rw [h1] at HN
    clear h1 HG
    go_enter Tryd.func57, Tryd.ntmps57
    go_wp2_with fail
    generalize w.alloc (.cells #[.string s, .int .i64 a, .int .i64 b, .slice A m c] 26) = w1 at *
    go_wp2_with fail
    refine (HN.out _).mono ?_; rintro e w1 ⟨rfl, rfl⟩
    go_wp2_with fail
    go_ret
    exact ⟨ret_bool E.out.symm, Hb1.out⟩
  | true =>
    cases h2 : inB b 1 1000 with
    | false =>
      have E := Lib.hid (show hdOk s a b r.toNat = false by unfold hdOk; rw [h1, h2]; rfl)
      rw [h1] at HN
      rw [h2] at HB
      clear h1 h2 HG
      go_enter Tryd.func57, Tryd.ntmps57
      go_wp2_with fail
      generalize w.alloc (.cells #[.string s, .int .i64 a, .int .i64 b, .slice A m c] 26) = w1 at *
      go_wp2_with fail
      refine (HN.out _).mono ?_; rintro e w1 ⟨rfl, rfl⟩
      go_wp2_with fail
      refine (HB.out _).mono ?_; rintro e w1 ⟨rfl, rfl⟩
      go_wp2_with fail
      go_ret
      exact ⟨ret_bool E.out.symm, Hb1.out⟩
    | true =>
      cases h3 : inB r 1 60 with
      | false =>
        have E := Lib.hid (hdOk_toNat s a b r h3)
        rw [h1] at HN
        rw [h2] at HB
        rw [h3] at HM
        clear h1 h2 h3 HG
        go_enter Tryd.func57, Tryd.ntmps57
        go_wp2_with fail
        generalize w.alloc (.cells #[.string s, .int .i64 a, .int .i64 b, .slice A m c] 26) = w1 at *
        go_wp2_with fail
        refine (HN.out _).mono ?_; rintro e w1 ⟨rfl, rfl⟩
        go_wp2_with fail
        refine (HB.out _).mono ?_; rintro e w1 ⟨rfl, rfl⟩
        go_wp2_with fail
        refine (HM.out _).mono ?_; rintro e w1 ⟨rfl, rfl⟩
        go_wp2_with fail
        go_ret
        exact ⟨ret_bool E.out.symm, Hb1.out⟩
      | true =>
        obtain ⟨n, rfl⟩ : ∃ n : Nat, r = (n : Int) := ⟨r.toNat, by have := inB_iff.1 h3; omega⟩
        rw [Int.toNat_natCast]
        cases h4 : inB a (-1000000) 1000000 with
        | false =>
          have E := Lib.hid (show hdOk s a b n = false by unfold hdOk; rw [h1, h2, h3, h4]; rfl)
          rw [h1] at HN
          rw [h2] at HB
          rw [h3] at HM
          rw [h4] at HA
          clear h1 h2 h3 h4 HG
          go_enter Tryd.func57, Tryd.ntmps57
          go_wp2_with fail
          generalize w.alloc (.cells #[.string s, .int .i64 a, .int .i64 b, .slice A m c] 26) = w1 at *
          go_wp2_with fail
          refine (HN.out _).mono ?_; rintro e w1 ⟨rfl, rfl⟩
          go_wp2_with fail
          refine (HB.out _).mono ?_; rintro e w1 ⟨rfl, rfl⟩
          go_wp2_with fail
          refine (HM.out _).mono ?_; rintro e w1 ⟨rfl, rfl⟩
          go_wp2_with fail
          refine (HA.out _).mono ?_; rintro e w1 ⟨rfl, rfl⟩
          go_wp2_with fail
          go_ret
          exact ⟨ret_bool E.out.symm, Hb1.out⟩
        | true =>
          have E := Lib.hid (show hdOk s a b n = decide (lastA a b n ≤ 1000000) by unfold hdOk; rw [h1, h2, h3, h4]; rfl)
          have hb := inB_iff.1 h2
          have hn := inB_iff.1 h3
          have ha := inB_iff.1 h4
          have hp := prod_bd (n := n) (b := b) (by omega) hb
          have HG := Lib.hid (fun wx => HG.out wx ha hp)
          unfold lastA at E
          generalize ((n : Int) - 1) * b = P at *
          rw [h1] at HN
          rw [h2] at HB
          rw [h3] at HM
          rw [h4] at HA
          clear h1 h2 h3 h4
          go_enter Tryd.func57, Tryd.ntmps57
          go_wp2_with fail
          generalize w.alloc (.cells #[.string s, .int .i64 a, .int .i64 b, .slice A m c] 26) = w1 at *
          go_wp2_with fail
          refine (HN.out _).mono ?_; rintro e w1 ⟨rfl, rfl⟩
          go_wp2_with fail
          refine (HB.out _).mono ?_; rintro e w1 ⟨rfl, rfl⟩
          go_wp2_with fail
          refine (HM.out _).mono ?_; rintro e w1 ⟨rfl, rfl⟩
          go_wp2_with fail
          refine (HA.out _).mono ?_; rintro e w1 ⟨rfl, rfl⟩
          go_wp2_with fail
          refine (HG.out _).mono ?_; rintro e w2 ⟨rfl, hb2⟩
          have Hb2 := Lib.hid (Hb1.out.trans (hb2.mono Hb1.out.size))
          clear hb2
          go_wp2_with fail
          go_ret
          exact ⟨ret_bool E.out.symm, Hb2.out⟩
def RetHd (r : Option Hd) (w : World) (e : Ending) (w' : World) : Prop :=
  ∃ (s : ByteArray) (a b n : Int), e = .returned (.tuple #[.agg #[.string s, .int .i64 a, .int .i64 b, .slice none 0 0], .int .i64 n, .bool r.isSome]) ∧ (∀ h, r = some h → s = h.nm ∧ a = h.a ∧ b = h.b ∧ n = (h.n : Int)) ∧ Below w.heap.size w w'
theorem RetHd.no {r : Option Hd} {s : ByteArray} {a b n : Int} {w w' : World} (h : r = none) (hb : Below w.heap.size w w') : RetHd r w (.returned (.tuple #[.agg #[.string s, .int .i64 a, .int .i64 b, .slice none 0 0], .int .i64 n, .bool false])) w' := by
  subst h; exact ⟨s, a, b, n, rfl, (fun _ e => by cases e), hb⟩
theorem RetHd.ok {r : Option Hd} {s : ByteArray} {a b n : Int} {w w' : World} {o : Bool} (h : r = if hdOk s a b n.toNat = true then some ⟨s, a, b, n.toNat⟩ else none) (ho : hdOk s a b n.toNat = o) (hb : Below w.heap.size w w') : RetHd r w (.returned (.tuple #[.agg #[.string s, .int .i64 a, .int .i64 b, .slice none 0 0], .int .i64 n, .bool o])) w' := by
  rw [ho] at h
  cases o with
  | false => exact RetHd.no h hb
  | true =>
    subst h
    refine ⟨s, a, b, n, rfl, (fun x e => ?_), hb⟩
    have := Option.some.inj e
    subst this
    refine ⟨rfl, rfl, rfl, ?_⟩
    have := (hdOk_n ho).2.2.1
    show n = ((n.toNat : Nat) : Int)
    omega
theorem hd3_n1 (x : ByteArray) (q r : Option Int) : hd3 x none q r = none := rfl
theorem hd3_n2 (x : ByteArray) (a : Int) (r : Option Int) : hd3 x (some a) none r = none := rfl
theorem hd3_n3 (x : ByteArray) (a b : Int) : hd3 x (some a) (some b) none = none := rfl
theorem hd3_s (x : ByteArray) (a b n : Int) : hd3 x (some a) (some b) (some n) = if hdOk x a b n.toNat = true then some ⟨x, a, b, n.toNat⟩ else none := rfl
set_option maxRecDepth 100000 in
set_option maxHeartbeats 3200000 in
theorem readHead_any (l : ByteArray) (w : World) (hs : l.size ≤ 1000000) (ht : Tab w) : Calls Tryd.prog 67 #[.string l] w (RetHd (hdR l) w) := by
  have HPt := Lib.hid (fun wx => parts_any l wx (by omega))
  unfold RetPs at HPt
  have Ht := Lib.hid ht
  clear ht
  by_cases h4 : (splitB 32 l).length = 4
  · obtain ⟨x, y, z, u, he⟩ := four_ofA h4
    have hmem := splitB_memA 32 l.size l (Nat.le_refl _)
    have hrd := hdR_four he
    rw [he] at HPt hmem
    have hx := hmem x (by simp)
    have hy := hmem y (by simp)
    have hz := hmem z (by simp)
    have hu := hmem u (by simp)
    have HD1 := Lib.hid (fun wx hx => ReadDecimal_any y wx (by omega) hx)
    have HD2 := Lib.hid (fun wx hx => ReadDecimal_any z wx (by omega) hx)
    have HD3 := Lib.hid (fun wx hx => ReadDecimal_any u wx (by omega) hx)
    unfold RetN1 at HD1 HD2 HD3
    rw [hrd]
    clear he h4 hmem hrd hy hz hu
    generalize readN y = p at *
    generalize readN z = r at *
    generalize readN u = k at *
    cases p with
    | none =>
      have HR := Lib.hid (hd3_n1 x r k)
      simp only [Option.getD_none, Option.isSome_none] at HD1
      generalize r.getD 0 = b1 at *
      generalize r.isSome = b2 at *
      generalize k.getD 0 = c1 at *
      generalize k.isSome = c2 at *
      obtain ⟨a1, ha1⟩ : ∃ z : Int, 0 = z := ⟨_, rfl⟩
      rw [ha1] at HD1
      clear ha1
      go_enter Tryd.func67, Tryd.ntmps67
      go_wp2_with fail
      obtain ⟨w0, hw0⟩ : ∃ z, w.alloc (.cells #[.string ⟨#[]⟩, .int .i64 0, .int .i64 0, .slice none 0 0] 26) = z := ⟨_, rfl⟩
      have HW0 := Lib.hid hw0
      have HB0 := Lib.hid (Below.refl w0.heap.size w0)
      have HWw := Lib.hid (show w0.heap.size = w.heap.size + 1 by rw [← hw0]; simp)
      (try rw [hw0])
      have Ht0 := Lib.hid (show Tab w0 by rw [← hw0]; exact Ht.out.below ((Below.refl w.heap.size w).alloc (Nat.le_refl _) _))
      clear hw0 Ht
      refine (HPt.out _).mono ?_; rintro e w6 ⟨v6, rfl, ho6, hb6⟩
      obtain ⟨g6, c6, rfl, hW⟩ := own_wd4 ho6
      have HW := Lib.hid hW
      have q1 := hW.c1
      have HB6 := Lib.hid (HB0.out.trans (hb6.mono HB0.out.size))
      clear ho6 hb6 HPt hW
      go_wp2_with fail
      refine (HD1.out _ (Ht0.out.below HB6.out)).mono ?_; rintro e w7 ⟨rfl, hb7⟩
      have HW7 := Lib.hid (HW.out.next hb7)
      have HB7 := Lib.hid (HB6.out.trans (hb7.mono HB6.out.size))
      have r2 := HW7.out.c2
      clear hb7 HB6 HW q1 HD1
      go_wp2_with fail
      refine (HD2.out _ (Ht0.out.below HB7.out)).mono ?_; rintro e w8 ⟨rfl, hb8⟩
      have HW8 := Lib.hid (HW7.out.next hb8)
      have HB8 := Lib.hid (HB7.out.trans (hb8.mono HB7.out.size))
      have q3 := HW8.out.c3
      clear hb8 HB7 HW7 r2 HD2
      go_wp2_with fail
      refine (HD3.out _ (Ht0.out.below HB8.out)).mono ?_; rintro e w9 ⟨rfl, hb9⟩
      have HW9 := Lib.hid (HW8.out.next hb9)
      have HB9 := Lib.hid (HB8.out.trans (hb9.mono HB8.out.size))
      have r0 := HW9.out.c0
      clear hb9 HB8 HW8 q3 HD3
      go_upto_region 8 with (fail)
      have HBa := Lib.hid (HB9.out.trans (((Below.refl w9.heap.size w9).alloc (Nat.le_refl _) (.cells #[.string x, .int .i64 a1, .int .i64 b1, .slice none 0 0] 26)).mono HB9.out.size))
      obtain ⟨f0, f1, f2, f3, _⟩ := blk4 (heap_alloc_new w9 (.cells #[.string x, .int .i64 a1, .int .i64 b1, .slice none 0 0] 26))
      have HZ := Lib.hid (show w9.heap.size < (w9.alloc (.cells #[.string x, .int .i64 a1, .int .i64 b1, .slice none 0 0] 26)).heap.size by simp)
      generalize w9.alloc (.cells #[.string x, .int .i64 a1, .int .i64 b1, .slice none 0 0] 26) = wa at *
      generalize w9.heap.size = q at *
      clear r0 HW9 HB9
      have HX := Lib.hid HBa.out
      rw [← HW0.out] at HX
      obtain ⟨⟨d0, d1, d2, d3⟩, e0, e1, e2, e3⟩ := res4A_pre HX.out
      have HD := Lib.hid (res4A_post HX.out (.string x) (.int .i64 a1) (.int .i64 b1) (.slice none 0 0))
      refine wp_region_noPanic ?_
      refine wp_region_L [16,15,14] (fun w' => w'.cell? ⟨q, 0, none⟩ = some (.string x) ∧ w'.cell? ⟨q, 1, none⟩ = some (.int .i64 a1) ∧ w'.cell? ⟨q, 2, none⟩ = some (.int .i64 b1) ∧ w'.cell? ⟨q, 3, none⟩ = some (.slice none 0 0)) (by kernel_rfl) (⟨f0, f1, f2, f3⟩) (fun hHeld => ?_)
      refine take_L [0] (i := 0) (d := some 46) (v := ?_) (by kernel_rfl) (by kernel_rfl) (by kernel_rfl) (by kernel_rfl) rfl rfl (by kernel_rfl) (by kernel_rfl) (by kernel_rfl) (fun _ _ _ h => h) (Or.inl ⟨by rfl, ?_⟩) (by assumption) ?_
      rotate_left
      · (intro w hSw; (try dsimp only at hSw); go_simp; (try rw [if_neg (by omega)]); (try (with_reducible rfl)))
      simp only [Act.put, List.setIfInBounds_toArray, List.set_cons_zero, List.set_cons_succ]
      refine take_F (i := 1) (d := some 47) (v := ?_) (by kernel_rfl) (by kernel_rfl) rfl rfl (by kernel_rfl) (by kernel_rfl) (by kernel_rfl) (fun _ _ _ h => h) (Or.inl ⟨by rfl, ?_⟩) (by assumption) ?_
      rotate_left
      · (intro w hSw; (try dsimp only at hSw); go_simp; (try rw [if_neg (by omega)]); (try (with_reducible rfl)))
      simp only [Act.put, List.setIfInBounds_toArray, List.set_cons_zero, List.set_cons_succ]
      refine take_F (i := 2) (d := some 48) (v := ?_) (by kernel_rfl) (by kernel_rfl) rfl rfl (by kernel_rfl) (by kernel_rfl) (by kernel_rfl) (fun _ _ _ h => h) (Or.inl ⟨by rfl, ?_⟩) (by assumption) ?_
      rotate_left
      · (intro w hSw; (try dsimp only at hSw); go_simp; (try rw [if_neg (by omega)]); (try (with_reducible rfl)))
      simp only [Act.put, List.setIfInBounds_toArray, List.set_cons_zero, List.set_cons_succ]
      refine take_F (i := 3) (d := some 49) (v := ?_) (by kernel_rfl) (by kernel_rfl) rfl rfl (by kernel_rfl) (by kernel_rfl) (by kernel_rfl) (fun _ _ _ h => h) (Or.inl ⟨by rfl, ?_⟩) (by assumption) ?_
      rotate_left
      · (intro w hSw; (try dsimp only at hSw); go_simp; (try rw [if_neg (by omega)]); (try (with_reducible rfl)))
      simp only [Act.put, List.setIfInBounds_toArray, List.set_cons_zero, List.set_cons_succ]
      refine take_F (i := 4) (d := some 50) (v := undef) (by kernel_rfl) (by kernel_rfl) rfl rfl (by kernel_rfl) (by kernel_rfl) (by kernel_rfl) (fun _ _ _ h => h) (Or.inr ⟨by rfl, rfl⟩) (by assumption) ?_
      simp only [Act.put, List.setIfInBounds_toArray, List.set_cons_zero, List.set_cons_succ]
      refine take_F (i := 5) (d := some 51) (v := ?_) (by kernel_rfl) (by kernel_rfl) rfl rfl (by kernel_rfl) (by kernel_rfl) (by kernel_rfl) (fun _ _ _ h => h) (Or.inl ⟨by rfl, ?_⟩) (by assumption) ?_
      rotate_left
      · (intro w hSw; (try dsimp only at hSw); go_simp; (try rw [if_neg (by omega)]); (try (with_reducible rfl)))
      simp only [Act.put, List.setIfInBounds_toArray, List.set_cons_zero, List.set_cons_succ]
      refine take_F (i := 6) (d := some 52) (v := ?_) (by kernel_rfl) (by kernel_rfl) rfl rfl (by kernel_rfl) (by kernel_rfl) (by kernel_rfl) (fun _ _ _ h => h) (Or.inl ⟨by rfl, ?_⟩) (by assumption) ?_
      rotate_left
      · (intro w hSw; (try dsimp only at hSw); go_simp; (try rw [if_neg (by omega)]); (try (with_reducible rfl)))
      simp only [Act.put, List.setIfInBounds_toArray, List.set_cons_zero, List.set_cons_succ]
      refine take_F (i := 7) (d := some 53) (v := undef) (by kernel_rfl) (by kernel_rfl) rfl rfl (by kernel_rfl) (by kernel_rfl) (by kernel_rfl) (fun _ _ _ h => h) (Or.inr ⟨by rfl, rfl⟩) (by assumption) ?_
      simp only [Act.put, List.setIfInBounds_toArray, List.set_cons_zero, List.set_cons_succ]
      refine take_F (i := 8) (d := some 54) (v := ?_) (by kernel_rfl) (by kernel_rfl) rfl rfl (by kernel_rfl) (by kernel_rfl) (by kernel_rfl) (fun _ _ _ h => h) (Or.inl ⟨by rfl, ?_⟩) (by assumption) ?_
      rotate_left
      · (intro w hSw; (try dsimp only at hSw); go_simp; (try rw [if_neg (by omega)]); (try (with_reducible rfl)))
      simp only [Act.put, List.setIfInBounds_toArray, List.set_cons_zero, List.set_cons_succ]
      refine take_F (i := 9) (d := some 55) (v := ?_) (by kernel_rfl) (by kernel_rfl) rfl rfl (by kernel_rfl) (by kernel_rfl) (by kernel_rfl) (fun _ _ _ h => h) (Or.inl ⟨by rfl, ?_⟩) (by assumption) ?_
      rotate_left
      · (intro w hSw; (try dsimp only at hSw); go_simp; (try rw [if_neg (by omega)]); (try (with_reducible rfl)))
      simp only [Act.put, List.setIfInBounds_toArray, List.set_cons_zero, List.set_cons_succ]
      refine take_F (i := 10) (d := some 56) (v := undef) (by kernel_rfl) (by kernel_rfl) rfl rfl (by kernel_rfl) (by kernel_rfl) (by kernel_rfl) (fun _ _ _ h => h) (Or.inr ⟨by rfl, rfl⟩) (by assumption) ?_
      simp only [Act.put, List.setIfInBounds_toArray, List.set_cons_zero, List.set_cons_succ]
      refine take_F (i := 11) (d := some 57) (v := undef) (by kernel_rfl) (by kernel_rfl) rfl rfl (by kernel_rfl) (by kernel_rfl) (by kernel_rfl) (fun _ _ _ h => h) (Or.inr ⟨by rfl, rfl⟩) (by assumption) ?_
      simp only [Act.put, List.setIfInBounds_toArray, List.set_cons_zero, List.set_cons_succ]
      refine call_L (i := 12) (d := (some 58)) rfl rfl (by kernel_rfl) (fun Kq hKq => ?_)
      go_simp
      refine hKq.out _ _ (⟨f0, f1, f2, f3⟩) (fun hHeld => ?_)
      clear hKq Kq
      (try simp only [Act.put, List.setIfInBounds_toArray, List.set_cons_zero, List.set_cons_succ])
      refine take_F (i := 13) (d := some 59) (v := ?_) (by kernel_rfl) (by kernel_rfl) rfl rfl (by kernel_rfl) (by kernel_rfl) (by kernel_rfl) (fun _ _ _ h => h) (Or.inl ⟨by rfl, ?_⟩) (by assumption) ?_
      rotate_left
      · (intro w hSw; (try dsimp only at hSw); go_simp; (try rw [if_neg (by omega)]); (try (with_reducible rfl)))
      simp only [Act.put, List.setIfInBounds_toArray, List.set_cons_zero, List.set_cons_succ]
      refine late_L (i := 14) (d := none) (by kernel_rfl) rfl rfl (by kernel_rfl) (fun Kq hKq => ?_)
      go_simp
      refine hKq.out _ _ ?_
      clear hKq Kq
      refine late_L (i := 15) (d := (some 3)) (by kernel_rfl) rfl rfl (by kernel_rfl) (fun Kq hKq => ?_)
      go_simp
      refine hKq.out _ _ ?_
      clear hKq Kq
      refine late_L (i := 16) (d := (some 4)) (by kernel_rfl) rfl rfl (by kernel_rfl) (fun Kq hKq => ?_)
      go_simp
      refine hKq.out _ _ ?_
      clear hKq Kq
      refine done_L (by kernel_rfl) ?_ _
      refine NoPanic.normal ?_
      go_wp2_with fail
      obtain ⟨⟨k0, k1, k2, k3⟩, hbz⟩ := HD.out
      refine bodyPost_ret (v := .tuple #[.agg #[.string x, .int .i64 a1, .int .i64 b1, .slice none 0 0], .int .i64 c1, .bool false]) (by simp [results, Tryd.results67, go_sem, k0, k1, k2, k3]) rfl ?_
      first | exact RetHd.no HR.out hbz | exact RetHd.no HR.out hbz.drew
    | some a1 =>
      cases r with
      | none =>
        have HR := Lib.hid (hd3_n2 x a1 k)
        simp only [Option.getD_some, Option.isSome_some] at HD1
        simp only [Option.getD_none, Option.isSome_none] at HD2
        generalize k.getD 0 = c1 at *
        generalize k.isSome = c2 at *
        obtain ⟨b1, hb1⟩ : ∃ z : Int, 0 = z := ⟨_, rfl⟩
        rw [hb1] at HD2
        clear hb1
        go_enter Tryd.func67, Tryd.ntmps67
        go_wp2_with fail
        obtain ⟨w0, hw0⟩ : ∃ z, w.alloc (.cells #[.string ⟨#[]⟩, .int .i64 0, .int .i64 0, .slice none 0 0] 26) = z := ⟨_, rfl⟩
        have HW0 := Lib.hid hw0
        have HB0 := Lib.hid (Below.refl w0.heap.size w0)
        have HWw := Lib.hid (show w0.heap.size = w.heap.size + 1 by rw [← hw0]; simp)
        (try rw [hw0])
        have Ht0 := Lib.hid (show Tab w0 by rw [← hw0]; exact Ht.out.below ((Below.refl w.heap.size w).alloc (Nat.le_refl _) _))
        clear hw0 Ht
        refine (HPt.out _).mono ?_; rintro e w6 ⟨v6, rfl, ho6, hb6⟩
        obtain ⟨g6, c6, rfl, hW⟩ := own_wd4 ho6
        have HW := Lib.hid hW
        have q1 := hW.c1
        have HB6 := Lib.hid (HB0.out.trans (hb6.mono HB0.out.size))
        clear ho6 hb6 HPt hW
        go_wp2_with fail
        refine (HD1.out _ (Ht0.out.below HB6.out)).mono ?_; rintro e w7 ⟨rfl, hb7⟩
        have HW7 := Lib.hid (HW.out.next hb7)
        have HB7 := Lib.hid (HB6.out.trans (hb7.mono HB6.out.size))
        have r2 := HW7.out.c2
        clear hb7 HB6 HW q1 HD1
        go_wp2_with fail
        refine (HD2.out _ (Ht0.out.below HB7.out)).mono ?_; rintro e w8 ⟨rfl, hb8⟩
        have HW8 := Lib.hid (HW7.out.next hb8)
        have HB8 := Lib.hid (HB7.out.trans (hb8.mono HB7.out.size))
        have q3 := HW8.out.c3
        clear hb8 HB7 HW7 r2 HD2
        go_wp2_with fail
        refine (HD3.out _ (Ht0.out.below HB8.out)).mono ?_; rintro e w9 ⟨rfl, hb9⟩
        have HW9 := Lib.hid (HW8.out.next hb9)
        have HB9 := Lib.hid (HB8.out.trans (hb9.mono HB8.out.size))
        have r0 := HW9.out.c0
        clear hb9 HB8 HW8 q3 HD3
        go_upto_region 8 with (fail)
        have HBa := Lib.hid (HB9.out.trans (((Below.refl w9.heap.size w9).alloc (Nat.le_refl _) (.cells #[.string x, .int .i64 a1, .int .i64 b1, .slice none 0 0] 26)).mono HB9.out.size))
        obtain ⟨f0, f1, f2, f3, _⟩ := blk4 (heap_alloc_new w9 (.cells #[.string x, .int .i64 a1, .int .i64 b1, .slice none 0 0] 26))
        have HZ := Lib.hid (show w9.heap.size < (w9.alloc (.cells #[.string x, .int .i64 a1, .int .i64 b1, .slice none 0 0] 26)).heap.size by simp)
        generalize w9.alloc (.cells #[.string x, .int .i64 a1, .int .i64 b1, .slice none 0 0] 26) = wa at *
        generalize w9.heap.size = q at *
        clear r0 HW9 HB9
        have HX := Lib.hid HBa.out
        rw [← HW0.out] at HX
        obtain ⟨⟨d0, d1, d2, d3⟩, e0, e1, e2, e3⟩ := res4A_pre HX.out
        have HD := Lib.hid (res4A_post HX.out (.string x) (.int .i64 a1) (.int .i64 b1) (.slice none 0 0))
        refine wp_region_noPanic ?_
        refine wp_region_L [16,15,14] (fun w' => w'.cell? ⟨q, 0, none⟩ = some (.string x) ∧ w'.cell? ⟨q, 1, none⟩ = some (.int .i64 a1) ∧ w'.cell? ⟨q, 2, none⟩ = some (.int .i64 b1) ∧ w'.cell? ⟨q, 3, none⟩ = some (.slice none 0 0)) (by kernel_rfl) (⟨f0, f1, f2, f3⟩) (fun hHeld => ?_)
        refine take_L [0] (i := 0) (d := some 46) (v := ?_) (by kernel_rfl) (by kernel_rfl) (by kernel_rfl) (by kernel_rfl) rfl rfl (by kernel_rfl) (by kernel_rfl) (by kernel_rfl) (fun _ _ _ h => h) (Or.inl ⟨by rfl, ?_⟩) (by assumption) ?_
        rotate_left
        · (intro w hSw; (try dsimp only at hSw); go_simp; (try rw [if_neg (by omega)]); (try (with_reducible rfl)))
        simp only [Act.put, List.setIfInBounds_toArray, List.set_cons_zero, List.set_cons_succ]
        refine take_F (i := 1) (d := some 47) (v := ?_) (by kernel_rfl) (by kernel_rfl) rfl rfl (by kernel_rfl) (by kernel_rfl) (by kernel_rfl) (fun _ _ _ h => h) (Or.inl ⟨by rfl, ?_⟩) (by assumption) ?_
        rotate_left
        · (intro w hSw; (try dsimp only at hSw); go_simp; (try rw [if_neg (by omega)]); (try (with_reducible rfl)))
        simp only [Act.put, List.setIfInBounds_toArray, List.set_cons_zero, List.set_cons_succ]
        refine take_F (i := 2) (d := some 48) (v := ?_) (by kernel_rfl) (by kernel_rfl) rfl rfl (by kernel_rfl) (by kernel_rfl) (by kernel_rfl) (fun _ _ _ h => h) (Or.inl ⟨by rfl, ?_⟩) (by assumption) ?_
        rotate_left
        · (intro w hSw; (try dsimp only at hSw); go_simp; (try rw [if_neg (by omega)]); (try (with_reducible rfl)))
        simp only [Act.put, List.setIfInBounds_toArray, List.set_cons_zero, List.set_cons_succ]
        refine take_F (i := 3) (d := some 49) (v := ?_) (by kernel_rfl) (by kernel_rfl) rfl rfl (by kernel_rfl) (by kernel_rfl) (by kernel_rfl) (fun _ _ _ h => h) (Or.inl ⟨by rfl, ?_⟩) (by assumption) ?_
        rotate_left
        · (intro w hSw; (try dsimp only at hSw); go_simp; (try rw [if_neg (by omega)]); (try (with_reducible rfl)))
        simp only [Act.put, List.setIfInBounds_toArray, List.set_cons_zero, List.set_cons_succ]
        refine take_F (i := 4) (d := some 50) (v := ?_) (by kernel_rfl) (by kernel_rfl) rfl rfl (by kernel_rfl) (by kernel_rfl) (by kernel_rfl) (fun _ _ _ h => h) (Or.inl ⟨by rfl, ?_⟩) (by assumption) ?_
        rotate_left
        · (intro w hSw; (try dsimp only at hSw); go_simp; (try rw [if_neg (by omega)]); (try (with_reducible rfl)))
        simp only [Act.put, List.setIfInBounds_toArray, List.set_cons_zero, List.set_cons_succ]
        refine take_F (i := 5) (d := some 51) (v := ?_) (by kernel_rfl) (by kernel_rfl) rfl rfl (by kernel_rfl) (by kernel_rfl) (by kernel_rfl) (fun _ _ _ h => h) (Or.inl ⟨by rfl, ?_⟩) (by assumption) ?_
        rotate_left
        · (intro w hSw; (try dsimp only at hSw); go_simp; (try rw [if_neg (by omega)]); (try (with_reducible rfl)))
        simp only [Act.put, List.setIfInBounds_toArray, List.set_cons_zero, List.set_cons_succ]
        refine take_F (i := 6) (d := some 52) (v := ?_) (by kernel_rfl) (by kernel_rfl) rfl rfl (by kernel_rfl) (by kernel_rfl) (by kernel_rfl) (fun _ _ _ h => h) (Or.inl ⟨by rfl, ?_⟩) (by assumption) ?_
        rotate_left
        · (intro w hSw; (try dsimp only at hSw); go_simp; (try rw [if_neg (by omega)]); (try (with_reducible rfl)))
        simp only [Act.put, List.setIfInBounds_toArray, List.set_cons_zero, List.set_cons_succ]
        refine take_F (i := 7) (d := some 53) (v := undef) (by kernel_rfl) (by kernel_rfl) rfl rfl (by kernel_rfl) (by kernel_rfl) (by kernel_rfl) (fun _ _ _ h => h) (Or.inr ⟨by rfl, rfl⟩) (by assumption) ?_
        simp only [Act.put, List.setIfInBounds_toArray, List.set_cons_zero, List.set_cons_succ]
        refine take_F (i := 8) (d := some 54) (v := ?_) (by kernel_rfl) (by kernel_rfl) rfl rfl (by kernel_rfl) (by kernel_rfl) (by kernel_rfl) (fun _ _ _ h => h) (Or.inl ⟨by rfl, ?_⟩) (by assumption) ?_
        rotate_left
        · (intro w hSw; (try dsimp only at hSw); go_simp; (try rw [if_neg (by omega)]); (try (with_reducible rfl)))
        simp only [Act.put, List.setIfInBounds_toArray, List.set_cons_zero, List.set_cons_succ]
        refine take_F (i := 9) (d := some 55) (v := ?_) (by kernel_rfl) (by kernel_rfl) rfl rfl (by kernel_rfl) (by kernel_rfl) (by kernel_rfl) (fun _ _ _ h => h) (Or.inl ⟨by rfl, ?_⟩) (by assumption) ?_
        rotate_left
        · (intro w hSw; (try dsimp only at hSw); go_simp; (try rw [if_neg (by omega)]); (try (with_reducible rfl)))
        simp only [Act.put, List.setIfInBounds_toArray, List.set_cons_zero, List.set_cons_succ]
        refine take_F (i := 10) (d := some 56) (v := undef) (by kernel_rfl) (by kernel_rfl) rfl rfl (by kernel_rfl) (by kernel_rfl) (by kernel_rfl) (fun _ _ _ h => h) (Or.inr ⟨by rfl, rfl⟩) (by assumption) ?_
        simp only [Act.put, List.setIfInBounds_toArray, List.set_cons_zero, List.set_cons_succ]
        refine take_F (i := 11) (d := some 57) (v := undef) (by kernel_rfl) (by kernel_rfl) rfl rfl (by kernel_rfl) (by kernel_rfl) (by kernel_rfl) (fun _ _ _ h => h) (Or.inr ⟨by rfl, rfl⟩) (by assumption) ?_
        simp only [Act.put, List.setIfInBounds_toArray, List.set_cons_zero, List.set_cons_succ]
        refine call_L (i := 12) (d := (some 58)) rfl rfl (by kernel_rfl) (fun Kq hKq => ?_)
        go_simp
        refine hKq.out _ _ (⟨f0, f1, f2, f3⟩) (fun hHeld => ?_)
        clear hKq Kq
        (try simp only [Act.put, List.setIfInBounds_toArray, List.set_cons_zero, List.set_cons_succ])
        refine take_F (i := 13) (d := some 59) (v := ?_) (by kernel_rfl) (by kernel_rfl) rfl rfl (by kernel_rfl) (by kernel_rfl) (by kernel_rfl) (fun _ _ _ h => h) (Or.inl ⟨by rfl, ?_⟩) (by assumption) ?_
        rotate_left
        · (intro w hSw; (try dsimp only at hSw); go_simp; (try rw [if_neg (by omega)]); (try (with_reducible rfl)))
        simp only [Act.put, List.setIfInBounds_toArray, List.set_cons_zero, List.set_cons_succ]
        refine late_L (i := 14) (d := none) (by kernel_rfl) rfl rfl (by kernel_rfl) (fun Kq hKq => ?_)
        go_simp
        refine hKq.out _ _ ?_
        clear hKq Kq
        refine late_L (i := 15) (d := (some 3)) (by kernel_rfl) rfl rfl (by kernel_rfl) (fun Kq hKq => ?_)
        go_simp
        refine hKq.out _ _ ?_
        clear hKq Kq
        refine late_L (i := 16) (d := (some 4)) (by kernel_rfl) rfl rfl (by kernel_rfl) (fun Kq hKq => ?_)
        go_simp
        refine hKq.out _ _ ?_
        clear hKq Kq
        refine done_L (by kernel_rfl) ?_ _
        refine NoPanic.normal ?_
        go_wp2_with fail
        obtain ⟨⟨k0, k1, k2, k3⟩, hbz⟩ := HD.out
        refine bodyPost_ret (v := .tuple #[.agg #[.string x, .int .i64 a1, .int .i64 b1, .slice none 0 0], .int .i64 c1, .bool false]) (by simp [results, Tryd.results67, go_sem, k0, k1, k2, k3]) rfl ?_
        first | exact RetHd.no HR.out hbz | exact RetHd.no HR.out hbz.drew
      | some b1 =>
        cases k with
        | none =>
          have HR := Lib.hid (hd3_n3 x a1 b1)
          simp only [Option.getD_some, Option.isSome_some] at HD1 HD2
          simp only [Option.getD_none, Option.isSome_none] at HD3
          obtain ⟨c1, hc1⟩ : ∃ z : Int, 0 = z := ⟨_, rfl⟩
          rw [hc1] at HD3
          clear hc1
          go_enter Tryd.func67, Tryd.ntmps67
          go_wp2_with fail
          obtain ⟨w0, hw0⟩ : ∃ z, w.alloc (.cells #[.string ⟨#[]⟩, .int .i64 0, .int .i64 0, .slice none 0 0] 26) = z := ⟨_, rfl⟩
          have HW0 := Lib.hid hw0
          have HB0 := Lib.hid (Below.refl w0.heap.size w0)
          have HWw := Lib.hid (show w0.heap.size = w.heap.size + 1 by rw [← hw0]; simp)
          (try rw [hw0])
          have Ht0 := Lib.hid (show Tab w0 by rw [← hw0]; exact Ht.out.below ((Below.refl w.heap.size w).alloc (Nat.le_refl _) _))
          clear hw0 Ht
          refine (HPt.out _).mono ?_; rintro e w6 ⟨v6, rfl, ho6, hb6⟩
          obtain ⟨g6, c6, rfl, hW⟩ := own_wd4 ho6
          have HW := Lib.hid hW
          have q1 := hW.c1
          have HB6 := Lib.hid (HB0.out.trans (hb6.mono HB0.out.size))
          clear ho6 hb6 HPt hW
          go_wp2_with fail
          refine (HD1.out _ (Ht0.out.below HB6.out)).mono ?_; rintro e w7 ⟨rfl, hb7⟩
          have HW7 := Lib.hid (HW.out.next hb7)
          have HB7 := Lib.hid (HB6.out.trans (hb7.mono HB6.out.size))
          have r2 := HW7.out.c2
          clear hb7 HB6 HW q1 HD1
          go_wp2_with fail
          refine (HD2.out _ (Ht0.out.below HB7.out)).mono ?_; rintro e w8 ⟨rfl, hb8⟩
          have HW8 := Lib.hid (HW7.out.next hb8)
          have HB8 := Lib.hid (HB7.out.trans (hb8.mono HB7.out.size))
          have q3 := HW8.out.c3
          clear hb8 HB7 HW7 r2 HD2
          go_wp2_with fail
          refine (HD3.out _ (Ht0.out.below HB8.out)).mono ?_; rintro e w9 ⟨rfl, hb9⟩
          have HW9 := Lib.hid (HW8.out.next hb9)
          have HB9 := Lib.hid (HB8.out.trans (hb9.mono HB8.out.size))
          have r0 := HW9.out.c0
          clear hb9 HB8 HW8 q3 HD3
          go_upto_region 8 with (fail)
          have HBa := Lib.hid (HB9.out.trans (((Below.refl w9.heap.size w9).alloc (Nat.le_refl _) (.cells #[.string x, .int .i64 a1, .int .i64 b1, .slice none 0 0] 26)).mono HB9.out.size))
          obtain ⟨f0, f1, f2, f3, _⟩ := blk4 (heap_alloc_new w9 (.cells #[.string x, .int .i64 a1, .int .i64 b1, .slice none 0 0] 26))
          have HZ := Lib.hid (show w9.heap.size < (w9.alloc (.cells #[.string x, .int .i64 a1, .int .i64 b1, .slice none 0 0] 26)).heap.size by simp)
          generalize w9.alloc (.cells #[.string x, .int .i64 a1, .int .i64 b1, .slice none 0 0] 26) = wa at *
          generalize w9.heap.size = q at *
          clear r0 HW9 HB9
          have HX := Lib.hid HBa.out
          rw [← HW0.out] at HX
          obtain ⟨⟨d0, d1, d2, d3⟩, e0, e1, e2, e3⟩ := res4A_pre HX.out
          have HD := Lib.hid (res4A_post HX.out (.string x) (.int .i64 a1) (.int .i64 b1) (.slice none 0 0))
          refine wp_region_noPanic ?_
          refine wp_region_L [16,15,14] (fun w' => w'.cell? ⟨q, 0, none⟩ = some (.string x) ∧ w'.cell? ⟨q, 1, none⟩ = some (.int .i64 a1) ∧ w'.cell? ⟨q, 2, none⟩ = some (.int .i64 b1) ∧ w'.cell? ⟨q, 3, none⟩ = some (.slice none 0 0)) (by kernel_rfl) (⟨f0, f1, f2, f3⟩) (fun hHeld => ?_)
          refine take_L [0] (i := 0) (d := some 46) (v := ?_) (by kernel_rfl) (by kernel_rfl) (by kernel_rfl) (by kernel_rfl) rfl rfl (by kernel_rfl) (by kernel_rfl) (by kernel_rfl) (fun _ _ _ h => h) (Or.inl ⟨by rfl, ?_⟩) (by assumption) ?_
          rotate_left
          · (intro w hSw; (try dsimp only at hSw); go_simp; (try rw [if_neg (by omega)]); (try (with_reducible rfl)))
          simp only [Act.put, List.setIfInBounds_toArray, List.set_cons_zero, List.set_cons_succ]
          refine take_F (i := 1) (d := some 47) (v := ?_) (by kernel_rfl) (by kernel_rfl) rfl rfl (by kernel_rfl) (by kernel_rfl) (by kernel_rfl) (fun _ _ _ h => h) (Or.inl ⟨by rfl, ?_⟩) (by assumption) ?_
          rotate_left
          · (intro w hSw; (try dsimp only at hSw); go_simp; (try rw [if_neg (by omega)]); (try (with_reducible rfl)))
          simp only [Act.put, List.setIfInBounds_toArray, List.set_cons_zero, List.set_cons_succ]
          refine take_F (i := 2) (d := some 48) (v := ?_) (by kernel_rfl) (by kernel_rfl) rfl rfl (by kernel_rfl) (by kernel_rfl) (by kernel_rfl) (fun _ _ _ h => h) (Or.inl ⟨by rfl, ?_⟩) (by assumption) ?_
          rotate_left
          · (intro w hSw; (try dsimp only at hSw); go_simp; (try rw [if_neg (by omega)]); (try (with_reducible rfl)))
          simp only [Act.put, List.setIfInBounds_toArray, List.set_cons_zero, List.set_cons_succ]
          refine take_F (i := 3) (d := some 49) (v := ?_) (by kernel_rfl) (by kernel_rfl) rfl rfl (by kernel_rfl) (by kernel_rfl) (by kernel_rfl) (fun _ _ _ h => h) (Or.inl ⟨by rfl, ?_⟩) (by assumption) ?_
          rotate_left
          · (intro w hSw; (try dsimp only at hSw); go_simp; (try rw [if_neg (by omega)]); (try (with_reducible rfl)))
          simp only [Act.put, List.setIfInBounds_toArray, List.set_cons_zero, List.set_cons_succ]
          refine take_F (i := 4) (d := some 50) (v := ?_) (by kernel_rfl) (by kernel_rfl) rfl rfl (by kernel_rfl) (by kernel_rfl) (by kernel_rfl) (fun _ _ _ h => h) (Or.inl ⟨by rfl, ?_⟩) (by assumption) ?_
          rotate_left
          · (intro w hSw; (try dsimp only at hSw); go_simp; (try rw [if_neg (by omega)]); (try (with_reducible rfl)))
          simp only [Act.put, List.setIfInBounds_toArray, List.set_cons_zero, List.set_cons_succ]
          refine take_F (i := 5) (d := some 51) (v := ?_) (by kernel_rfl) (by kernel_rfl) rfl rfl (by kernel_rfl) (by kernel_rfl) (by kernel_rfl) (fun _ _ _ h => h) (Or.inl ⟨by rfl, ?_⟩) (by assumption) ?_
          rotate_left
          · (intro w hSw; (try dsimp only at hSw); go_simp; (try rw [if_neg (by omega)]); (try (with_reducible rfl)))
          simp only [Act.put, List.setIfInBounds_toArray, List.set_cons_zero, List.set_cons_succ]
          refine take_F (i := 6) (d := some 52) (v := ?_) (by kernel_rfl) (by kernel_rfl) rfl rfl (by kernel_rfl) (by kernel_rfl) (by kernel_rfl) (fun _ _ _ h => h) (Or.inl ⟨by rfl, ?_⟩) (by assumption) ?_
          rotate_left
          · (intro w hSw; (try dsimp only at hSw); go_simp; (try rw [if_neg (by omega)]); (try (with_reducible rfl)))
          simp only [Act.put, List.setIfInBounds_toArray, List.set_cons_zero, List.set_cons_succ]
          refine take_F (i := 7) (d := some 53) (v := ?_) (by kernel_rfl) (by kernel_rfl) rfl rfl (by kernel_rfl) (by kernel_rfl) (by kernel_rfl) (fun _ _ _ h => h) (Or.inl ⟨by rfl, ?_⟩) (by assumption) ?_
          rotate_left
          · (intro w hSw; (try dsimp only at hSw); go_simp; (try rw [if_neg (by omega)]); (try (with_reducible rfl)))
          simp only [Act.put, List.setIfInBounds_toArray, List.set_cons_zero, List.set_cons_succ]
          refine take_F (i := 8) (d := some 54) (v := ?_) (by kernel_rfl) (by kernel_rfl) rfl rfl (by kernel_rfl) (by kernel_rfl) (by kernel_rfl) (fun _ _ _ h => h) (Or.inl ⟨by rfl, ?_⟩) (by assumption) ?_
          rotate_left
          · (intro w hSw; (try dsimp only at hSw); go_simp; (try rw [if_neg (by omega)]); (try (with_reducible rfl)))
          simp only [Act.put, List.setIfInBounds_toArray, List.set_cons_zero, List.set_cons_succ]
          refine take_F (i := 9) (d := some 55) (v := ?_) (by kernel_rfl) (by kernel_rfl) rfl rfl (by kernel_rfl) (by kernel_rfl) (by kernel_rfl) (fun _ _ _ h => h) (Or.inl ⟨by rfl, ?_⟩) (by assumption) ?_
          rotate_left
          · (intro w hSw; (try dsimp only at hSw); go_simp; (try rw [if_neg (by omega)]); (try (with_reducible rfl)))
          simp only [Act.put, List.setIfInBounds_toArray, List.set_cons_zero, List.set_cons_succ]
          refine take_F (i := 10) (d := some 56) (v := undef) (by kernel_rfl) (by kernel_rfl) rfl rfl (by kernel_rfl) (by kernel_rfl) (by kernel_rfl) (fun _ _ _ h => h) (Or.inr ⟨by rfl, rfl⟩) (by assumption) ?_
          simp only [Act.put, List.setIfInBounds_toArray, List.set_cons_zero, List.set_cons_succ]
          refine take_F (i := 11) (d := some 57) (v := undef) (by kernel_rfl) (by kernel_rfl) rfl rfl (by kernel_rfl) (by kernel_rfl) (by kernel_rfl) (fun _ _ _ h => h) (Or.inr ⟨by rfl, rfl⟩) (by assumption) ?_
          simp only [Act.put, List.setIfInBounds_toArray, List.set_cons_zero, List.set_cons_succ]
          refine call_L (i := 12) (d := (some 58)) rfl rfl (by kernel_rfl) (fun Kq hKq => ?_)
          go_simp
          refine hKq.out _ _ (⟨f0, f1, f2, f3⟩) (fun hHeld => ?_)
          clear hKq Kq
          (try simp only [Act.put, List.setIfInBounds_toArray, List.set_cons_zero, List.set_cons_succ])
          refine take_F (i := 13) (d := some 59) (v := ?_) (by kernel_rfl) (by kernel_rfl) rfl rfl (by kernel_rfl) (by kernel_rfl) (by kernel_rfl) (fun _ _ _ h => h) (Or.inl ⟨by rfl, ?_⟩) (by assumption) ?_
          rotate_left
          · (intro w hSw; (try dsimp only at hSw); go_simp; (try rw [if_neg (by omega)]); (try (with_reducible rfl)))
          simp only [Act.put, List.setIfInBounds_toArray, List.set_cons_zero, List.set_cons_succ]
          refine late_L (i := 14) (d := none) (by kernel_rfl) rfl rfl (by kernel_rfl) (fun Kq hKq => ?_)
          go_simp
          refine hKq.out _ _ ?_
          clear hKq Kq
          refine late_L (i := 15) (d := (some 3)) (by kernel_rfl) rfl rfl (by kernel_rfl) (fun Kq hKq => ?_)
          go_simp
          refine hKq.out _ _ ?_
          clear hKq Kq
          refine late_L (i := 16) (d := (some 4)) (by kernel_rfl) rfl rfl (by kernel_rfl) (fun Kq hKq => ?_)
          go_simp
          refine hKq.out _ _ ?_
          clear hKq Kq
          refine done_L (by kernel_rfl) ?_ _
          refine NoPanic.normal ?_
          go_wp2_with fail
          obtain ⟨⟨k0, k1, k2, k3⟩, hbz⟩ := HD.out
          refine bodyPost_ret (v := .tuple #[.agg #[.string x, .int .i64 a1, .int .i64 b1, .slice none 0 0], .int .i64 c1, .bool false]) (by simp [results, Tryd.results67, go_sem, k0, k1, k2, k3]) rfl ?_
          first | exact RetHd.no HR.out hbz | exact RetHd.no HR.out hbz.drew
        | some c1 =>
          simp only [Option.getD_some, Option.isSome_some] at HD1 HD2 HD3
          have HR := Lib.hid (hd3_s x a1 b1 c1)
          have HV := Lib.hid (fun wx => validHeadR_c x a1 b1 c1 none 0 0 wx (by omega))
          obtain ⟨o, ho⟩ : ∃ o, hdOk x a1 b1 c1.toNat = o := ⟨_, rfl⟩
          rw [ho] at HV
          have HO := Lib.hid ho
          clear ho
          go_enter Tryd.func67, Tryd.ntmps67
          go_wp2_with fail
          obtain ⟨w0, hw0⟩ : ∃ z, w.alloc (.cells #[.string ⟨#[]⟩, .int .i64 0, .int .i64 0, .slice none 0 0] 26) = z := ⟨_, rfl⟩
          have HW0 := Lib.hid hw0
          have HB0 := Lib.hid (Below.refl w0.heap.size w0)
          have HWw := Lib.hid (show w0.heap.size = w.heap.size + 1 by rw [← hw0]; simp)
          (try rw [hw0])
          have Ht0 := Lib.hid (show Tab w0 by rw [← hw0]; exact Ht.out.below ((Below.refl w.heap.size w).alloc (Nat.le_refl _) _))
          clear hw0 Ht
          refine (HPt.out _).mono ?_; rintro e w6 ⟨v6, rfl, ho6, hb6⟩
          obtain ⟨g6, c6, rfl, hW⟩ := own_wd4 ho6
          have HW := Lib.hid hW
          have q1 := hW.c1
          have HB6 := Lib.hid (HB0.out.trans (hb6.mono HB0.out.size))
          clear ho6 hb6 HPt hW
          go_wp2_with fail
          refine (HD1.out _ (Ht0.out.below HB6.out)).mono ?_; rintro e w7 ⟨rfl, hb7⟩
          have HW7 := Lib.hid (HW.out.next hb7)
          have HB7 := Lib.hid (HB6.out.trans (hb7.mono HB6.out.size))
          have r2 := HW7.out.c2
          clear hb7 HB6 HW q1 HD1
          go_wp2_with fail
          refine (HD2.out _ (Ht0.out.below HB7.out)).mono ?_; rintro e w8 ⟨rfl, hb8⟩
          have HW8 := Lib.hid (HW7.out.next hb8)
          have HB8 := Lib.hid (HB7.out.trans (hb8.mono HB7.out.size))
          have q3 := HW8.out.c3
          clear hb8 HB7 HW7 r2 HD2
          go_wp2_with fail
          refine (HD3.out _ (Ht0.out.below HB8.out)).mono ?_; rintro e w9 ⟨rfl, hb9⟩
          have HW9 := Lib.hid (HW8.out.next hb9)
          have HB9 := Lib.hid (HB8.out.trans (hb9.mono HB8.out.size))
          have r0 := HW9.out.c0
          clear hb9 HB8 HW8 q3 HD3
          go_upto_region 8 with (fail)
          have HBa := Lib.hid (HB9.out.trans (((Below.refl w9.heap.size w9).alloc (Nat.le_refl _) (.cells #[.string x, .int .i64 a1, .int .i64 b1, .slice none 0 0] 26)).mono HB9.out.size))
          obtain ⟨f0, f1, f2, f3, _⟩ := blk4 (heap_alloc_new w9 (.cells #[.string x, .int .i64 a1, .int .i64 b1, .slice none 0 0] 26))
          have HZ := Lib.hid (show w9.heap.size < (w9.alloc (.cells #[.string x, .int .i64 a1, .int .i64 b1, .slice none 0 0] 26)).heap.size by simp)
          generalize w9.alloc (.cells #[.string x, .int .i64 a1, .int .i64 b1, .slice none 0 0] 26) = wa at *
          generalize w9.heap.size = q at *
          clear r0 HW9 HB9
          refine wp_region_noPanic ?_
          refine wp_region_L [16,15,14] (fun w' => w'.cell? ⟨q, 0, none⟩ = some (.string x) ∧ w'.cell? ⟨q, 1, none⟩ = some (.int .i64 a1) ∧ w'.cell? ⟨q, 2, none⟩ = some (.int .i64 b1) ∧ w'.cell? ⟨q, 3, none⟩ = some (.slice none 0 0)) (by kernel_rfl) (⟨f0, f1, f2, f3⟩) (fun hHeld => ?_)
          refine take_L [0] (i := 0) (d := some 46) (v := ?_) (by kernel_rfl) (by kernel_rfl) (by kernel_rfl) (by kernel_rfl) rfl rfl (by kernel_rfl) (by kernel_rfl) (by kernel_rfl) (fun _ _ _ h => h) (Or.inl ⟨by rfl, ?_⟩) (by assumption) ?_
          rotate_left
          · (intro w hSw; (try dsimp only at hSw); go_simp; (try rw [if_neg (by omega)]); (try (with_reducible rfl)))
          simp only [Act.put, List.setIfInBounds_toArray, List.set_cons_zero, List.set_cons_succ]
          refine take_F (i := 1) (d := some 47) (v := ?_) (by kernel_rfl) (by kernel_rfl) rfl rfl (by kernel_rfl) (by kernel_rfl) (by kernel_rfl) (fun _ _ _ h => h) (Or.inl ⟨by rfl, ?_⟩) (by assumption) ?_
          rotate_left
          · (intro w hSw; (try dsimp only at hSw); go_simp; (try rw [if_neg (by omega)]); (try (with_reducible rfl)))
          simp only [Act.put, List.setIfInBounds_toArray, List.set_cons_zero, List.set_cons_succ]
          refine take_F (i := 2) (d := some 48) (v := ?_) (by kernel_rfl) (by kernel_rfl) rfl rfl (by kernel_rfl) (by kernel_rfl) (by kernel_rfl) (fun _ _ _ h => h) (Or.inl ⟨by rfl, ?_⟩) (by assumption) ?_
          rotate_left
          · (intro w hSw; (try dsimp only at hSw); go_simp; (try rw [if_neg (by omega)]); (try (with_reducible rfl)))
          simp only [Act.put, List.setIfInBounds_toArray, List.set_cons_zero, List.set_cons_succ]
          refine take_F (i := 3) (d := some 49) (v := ?_) (by kernel_rfl) (by kernel_rfl) rfl rfl (by kernel_rfl) (by kernel_rfl) (by kernel_rfl) (fun _ _ _ h => h) (Or.inl ⟨by rfl, ?_⟩) (by assumption) ?_
          rotate_left
          · (intro w hSw; (try dsimp only at hSw); go_simp; (try rw [if_neg (by omega)]); (try (with_reducible rfl)))
          simp only [Act.put, List.setIfInBounds_toArray, List.set_cons_zero, List.set_cons_succ]
          refine take_F (i := 4) (d := some 50) (v := ?_) (by kernel_rfl) (by kernel_rfl) rfl rfl (by kernel_rfl) (by kernel_rfl) (by kernel_rfl) (fun _ _ _ h => h) (Or.inl ⟨by rfl, ?_⟩) (by assumption) ?_
          rotate_left
          · (intro w hSw; (try dsimp only at hSw); go_simp; (try rw [if_neg (by omega)]); (try (with_reducible rfl)))
          simp only [Act.put, List.setIfInBounds_toArray, List.set_cons_zero, List.set_cons_succ]
          refine take_F (i := 5) (d := some 51) (v := ?_) (by kernel_rfl) (by kernel_rfl) rfl rfl (by kernel_rfl) (by kernel_rfl) (by kernel_rfl) (fun _ _ _ h => h) (Or.inl ⟨by rfl, ?_⟩) (by assumption) ?_
          rotate_left
          · (intro w hSw; (try dsimp only at hSw); go_simp; (try rw [if_neg (by omega)]); (try (with_reducible rfl)))
          simp only [Act.put, List.setIfInBounds_toArray, List.set_cons_zero, List.set_cons_succ]
          refine take_F (i := 6) (d := some 52) (v := ?_) (by kernel_rfl) (by kernel_rfl) rfl rfl (by kernel_rfl) (by kernel_rfl) (by kernel_rfl) (fun _ _ _ h => h) (Or.inl ⟨by rfl, ?_⟩) (by assumption) ?_
          rotate_left
          · (intro w hSw; (try dsimp only at hSw); go_simp; (try rw [if_neg (by omega)]); (try (with_reducible rfl)))
          simp only [Act.put, List.setIfInBounds_toArray, List.set_cons_zero, List.set_cons_succ]
          refine take_F (i := 7) (d := some 53) (v := ?_) (by kernel_rfl) (by kernel_rfl) rfl rfl (by kernel_rfl) (by kernel_rfl) (by kernel_rfl) (fun _ _ _ h => h) (Or.inl ⟨by rfl, ?_⟩) (by assumption) ?_
          rotate_left
          · (intro w hSw; (try dsimp only at hSw); go_simp; (try rw [if_neg (by omega)]); (try (with_reducible rfl)))
          simp only [Act.put, List.setIfInBounds_toArray, List.set_cons_zero, List.set_cons_succ]
          refine take_F (i := 8) (d := some 54) (v := ?_) (by kernel_rfl) (by kernel_rfl) rfl rfl (by kernel_rfl) (by kernel_rfl) (by kernel_rfl) (fun _ _ _ h => h) (Or.inl ⟨by rfl, ?_⟩) (by assumption) ?_
          rotate_left
          · (intro w hSw; (try dsimp only at hSw); go_simp; (try rw [if_neg (by omega)]); (try (with_reducible rfl)))
          simp only [Act.put, List.setIfInBounds_toArray, List.set_cons_zero, List.set_cons_succ]
          refine take_F (i := 9) (d := some 55) (v := ?_) (by kernel_rfl) (by kernel_rfl) rfl rfl (by kernel_rfl) (by kernel_rfl) (by kernel_rfl) (fun _ _ _ h => h) (Or.inl ⟨by rfl, ?_⟩) (by assumption) ?_
          rotate_left
          · (intro w hSw; (try dsimp only at hSw); go_simp; (try rw [if_neg (by omega)]); (try (with_reducible rfl)))
          simp only [Act.put, List.setIfInBounds_toArray, List.set_cons_zero, List.set_cons_succ]
          refine take_L [12,10] (i := 10) (d := some 56) (v := ?_) (by kernel_rfl) (by kernel_rfl) (by kernel_rfl) (by kernel_rfl) rfl rfl (by kernel_rfl) (by kernel_rfl) (by kernel_rfl) (fun _ _ _ h => h) (Or.inl ⟨by rfl, ?_⟩) (by assumption) ?_
          rotate_left
          · (intro w hSw; (try dsimp only at hSw); go_simp; (try rw [if_neg (by omega)]); (try (with_reducible rfl)))
          simp only [Act.put, List.setIfInBounds_toArray, List.set_cons_zero, List.set_cons_succ]
          refine take_F (i := 11) (d := some 57) (v := ?_) (by kernel_rfl) (by kernel_rfl) rfl rfl (by kernel_rfl) (by kernel_rfl) (by kernel_rfl) (fun _ _ _ h => h) (Or.inl ⟨by rfl, ?_⟩) (by assumption) ?_
          rotate_left
          · (intro w hSw; (try dsimp only at hSw); go_simp; (try rw [if_neg (by omega)]); (try (with_reducible rfl)))
          simp only [Act.put, List.setIfInBounds_toArray, List.set_cons_zero, List.set_cons_succ]
          refine call_L (i := 12) (d := (some 58)) rfl rfl (by kernel_rfl) (fun Kq hKq => ?_)
          go_simp
          go_at_call 57
          refine (HV.out _).mono ?_; rintro e w3 ⟨rfl, hb3⟩
          have HX := Lib.hid (HBa.out.trans ((below_undrew hb3).mono HBa.out.size))
          rw [← HW0.out] at HX
          obtain ⟨⟨d0, d1, d2, d3⟩, e0, e1, e2, e3⟩ := res4A_pre HX.out
          have HD := Lib.hid (res4A_post HX.out (.string x) (.int .i64 a1) (.int .i64 b1) (.slice none 0 0))
          have m0 := (hb3.cell (p := ⟨q, 0, none⟩) HZ.out).trans f0
          have m1 := (hb3.cell (p := ⟨q, 1, none⟩) HZ.out).trans f1
          have m2 := (hb3.cell (p := ⟨q, 2, none⟩) HZ.out).trans f2
          have m3 := (hb3.cell (p := ⟨q, 3, none⟩) HZ.out).trans f3
          clear hb3 f0 f1 f2 f3
          (try go_wp2_with fail)
          refine hKq.out _ _ (⟨m0, m1, m2, m3⟩) (fun hHeld => ?_)
          clear hKq Kq
          (try simp only [Act.put, List.setIfInBounds_toArray, List.set_cons_zero, List.set_cons_succ])
          refine take_F (i := 13) (d := some 59) (v := ?_) (by kernel_rfl) (by kernel_rfl) rfl rfl (by kernel_rfl) (by kernel_rfl) (by kernel_rfl) (fun _ _ _ h => h) (Or.inl ⟨by rfl, ?_⟩) (by assumption) ?_
          rotate_left
          · (intro w hSw; (try dsimp only at hSw); go_simp; (try rw [if_neg (by omega)]); (try (with_reducible rfl)))
          simp only [Act.put, List.setIfInBounds_toArray, List.set_cons_zero, List.set_cons_succ]
          refine late_L (i := 14) (d := none) (by kernel_rfl) rfl rfl (by kernel_rfl) (fun Kq hKq => ?_)
          go_simp
          refine hKq.out _ _ ?_
          clear hKq Kq
          refine late_L (i := 15) (d := (some 3)) (by kernel_rfl) rfl rfl (by kernel_rfl) (fun Kq hKq => ?_)
          go_simp
          refine hKq.out _ _ ?_
          clear hKq Kq
          refine late_L (i := 16) (d := (some 4)) (by kernel_rfl) rfl rfl (by kernel_rfl) (fun Kq hKq => ?_)
          go_simp
          refine hKq.out _ _ ?_
          clear hKq Kq
          refine done_L (by kernel_rfl) ?_ _
          refine NoPanic.normal ?_
          go_wp2_with fail
          obtain ⟨⟨k0, k1, k2, k3⟩, hbz⟩ := HD.out
          refine bodyPost_ret (v := .tuple #[.agg #[.string x, .int .i64 a1, .int .i64 b1, .slice none 0 0], .int .i64 c1, .bool o]) (by simp [results, Tryd.results67, go_sem, k0, k1, k2, k3]) rfl ?_
          exact RetHd.ok HR.out HO.out hbz
  · have HR := Lib.hid (hdR_not h4)
    have h4' : ¬ (((splitB 32 l).length : Int) = 4) := by omega
    clear h4
    have HB0 := Lib.hid (Below.refl (w.alloc (.cells #[.string ⟨#[]⟩, .int .i64 0, .int .i64 0, .slice none 0 0] 26)).heap.size (w.alloc (.cells #[.string ⟨#[]⟩, .int .i64 0, .int .i64 0, .slice none 0 0] 26)))
    go_enter Tryd.func67, Tryd.ntmps67
    go_wp2_with fail
    refine (HPt.out _).mono ?_; rintro e w5 ⟨v5, rfl, ho5, hb5⟩
    have HB5 := Lib.hid (HB0.out.trans (hb5.mono HB0.out.size))
    obtain ⟨A5, c5, rfl⟩ := sl_of_own ho5
    obtain ⟨⟨d0, d1, d2, d3⟩, e0, e1, e2, e3⟩ := res4A_pre HB5.out
    have HD := Lib.hid (res4A_post HB5.out (.string ⟨#[]⟩) (.int .i64 0) (.int .i64 0) (.slice none 0 0))
    generalize (splitB 32 l).length = n at *
    clear ho5 hb5 HPt HB0
    go_wp2_with fail
    obtain ⟨⟨k0, k1, k2, k3⟩, hbz⟩ := HD.out
    refine bodyPost_ret (v := .tuple #[.agg #[.string ⟨#[]⟩, .int .i64 0, .int .i64 0, .slice none 0 0], .int .i64 0, .bool false]) (by simp [results, Tryd.results67, go_sem, k0, k1, k2, k3]) rfl ?_
    exact RetHd.no HR.out hbz
theorem zero_row (m : Nat) : allN m (fun i => isV ((fun _ => (0 : Int)) i)) = true := List.all_eq_true.2 fun _ _ => rfl
theorem pgOk_zero (s : ByteArray) (a b : Int) (m : Nat) : pgOk s.data.toList a b m (fun _ => 0) = hdOk s a b m := by
  rw [pgOk_hd, zero_row, Bool.true_and]
set_option maxRecDepth 100000 in
set_option maxHeartbeats 3200000 in
theorem l18Head_any (l : ByteArray) (w : World) (hs : l.size ≤ 1000000) : Calls Tryd.prog 69 #[.string l] w (RetHd (hdR l) w) := by
  have HPt := Lib.hid (fun wx => l01Split_any l 32 wx (by omega))
  unfold RetPs at HPt
  by_cases h4 : (splitB 32 l).length = 4
  · obtain ⟨x, y, z, u, he⟩ := four_ofA h4
    have hmem := splitB_memA 32 l.size l (Nat.le_refl _)
    have hrd := hdR_four he
    rw [he] at HPt hmem
    have hx := hmem x (by simp)
    have hy := hmem y (by simp)
    have hz := hmem z (by simp)
    have hu := hmem u (by simp)
    have HD1 := Lib.hid (fun wx => l01Number_any y wx (by omega))
    have HD2 := Lib.hid (fun wx => l01Number_any z wx (by omega))
    have HD3 := Lib.hid (fun wx => l01Number_any u wx (by omega))
    unfold RetN1 at HD1 HD2 HD3
    rw [hrd]
    clear he h4 hmem hrd hy hz hu
    generalize readN y = p at *
    generalize readN z = r at *
    generalize readN u = k at *
    cases p with
    | none =>
      have HR := Lib.hid (hd3_n1 x r k)
      simp only [Option.getD_none, Option.isSome_none] at HD1
      generalize r.getD 0 = b1 at *
      generalize r.isSome = b2 at *
      generalize k.getD 0 = c1 at *
      generalize k.isSome = c2 at *
      obtain ⟨a1, ha1⟩ : ∃ z : Int, 0 = z := ⟨_, rfl⟩
      rw [ha1] at HD1
      clear ha1
      go_enter Tryd.func69, Tryd.ntmps69
      go_wp2_with fail
      obtain ⟨w0, hw0⟩ : ∃ z, w.alloc (.cells #[.string ⟨#[]⟩, .int .i64 0, .int .i64 0, .slice none 0 0] 26) = z := ⟨_, rfl⟩
      have HW0 := Lib.hid hw0
      have HB0 := Lib.hid (Below.refl w0.heap.size w0)
      have HWw := Lib.hid (show w0.heap.size = w.heap.size + 1 by rw [← hw0]; simp)
      (try rw [hw0])
      clear hw0
      refine (HPt.out _).mono ?_; rintro e w6 ⟨v6, rfl, ho6, hb6⟩
      obtain ⟨g6, c6, rfl, hW⟩ := own_wd4 ho6
      have HW := Lib.hid hW
      have q1 := hW.c1
      have HB6 := Lib.hid (HB0.out.trans (hb6.mono HB0.out.size))
      clear ho6 hb6 HPt hW
      go_wp2_with fail
      refine (HD1.out _).mono ?_; rintro e w7 ⟨rfl, hb7⟩
      have HW7 := Lib.hid (HW.out.next hb7)
      have HB7 := Lib.hid (HB6.out.trans (hb7.mono HB6.out.size))
      have r2 := HW7.out.c2
      clear hb7 HB6 HW q1 HD1
      go_wp2_with fail
      refine (HD2.out _).mono ?_; rintro e w8 ⟨rfl, hb8⟩
      have HW8 := Lib.hid (HW7.out.next hb8)
      have HB8 := Lib.hid (HB7.out.trans (hb8.mono HB7.out.size))
      have q3 := HW8.out.c3
      clear hb8 HB7 HW7 r2 HD2
      go_wp2_with fail
      refine (HD3.out _).mono ?_; rintro e w9 ⟨rfl, hb9⟩
      have HW9 := Lib.hid (HW8.out.next hb9)
      have HB9 := Lib.hid (HB8.out.trans (hb9.mono HB8.out.size))
      have r0 := HW9.out.c0
      clear hb9 HB8 HW8 q3 HD3
      go_upto_region 8 with (fail)
      have HBa := Lib.hid (HB9.out.trans (((Below.refl w9.heap.size w9).alloc (Nat.le_refl _) (.cells #[.string x, .int .i64 a1, .int .i64 b1, .slice none 0 0] 26)).mono HB9.out.size))
      obtain ⟨f0, f1, f2, f3, _⟩ := blk4 (heap_alloc_new w9 (.cells #[.string x, .int .i64 a1, .int .i64 b1, .slice none 0 0] 26))
      have HZ := Lib.hid (show w9.heap.size < (w9.alloc (.cells #[.string x, .int .i64 a1, .int .i64 b1, .slice none 0 0] 26)).heap.size by simp)
      generalize w9.alloc (.cells #[.string x, .int .i64 a1, .int .i64 b1, .slice none 0 0] 26) = wa at *
      generalize w9.heap.size = q at *
      clear r0 HW9 HB9
      have HX := Lib.hid HBa.out
      rw [← HW0.out] at HX
      obtain ⟨⟨d0, d1, d2, d3⟩, e0, e1, e2, e3⟩ := res4A_pre HX.out
      have HD := Lib.hid (res4A_post HX.out (.string ⟨#[]⟩) (.int .i64 0) (.int .i64 0) (.slice none 0 0))
      go_wp2_with fail
      obtain ⟨⟨k0, k1, k2, k3⟩, hbz⟩ := HD.out
      refine bodyPost_ret (v := .tuple #[.agg #[.string ⟨#[]⟩, .int .i64 0, .int .i64 0, .slice none 0 0], .int .i64 0, .bool false]) (by simp [results, Tryd.results69, go_sem, k0, k1, k2, k3]) rfl ?_
      exact RetHd.no HR.out hbz
    | some a1 =>
      cases r with
      | none =>
        have HR := Lib.hid (hd3_n2 x a1 k)
        simp only [Option.getD_some, Option.isSome_some] at HD1
        simp only [Option.getD_none, Option.isSome_none] at HD2
        generalize k.getD 0 = c1 at *
        generalize k.isSome = c2 at *
        obtain ⟨b1, hb1⟩ : ∃ z : Int, 0 = z := ⟨_, rfl⟩
        rw [hb1] at HD2
        clear hb1
        go_enter Tryd.func69, Tryd.ntmps69
        go_wp2_with fail
        obtain ⟨w0, hw0⟩ : ∃ z, w.alloc (.cells #[.string ⟨#[]⟩, .int .i64 0, .int .i64 0, .slice none 0 0] 26) = z := ⟨_, rfl⟩
        have HW0 := Lib.hid hw0
        have HB0 := Lib.hid (Below.refl w0.heap.size w0)
        have HWw := Lib.hid (show w0.heap.size = w.heap.size + 1 by rw [← hw0]; simp)
        (try rw [hw0])
        clear hw0
        refine (HPt.out _).mono ?_; rintro e w6 ⟨v6, rfl, ho6, hb6⟩
        obtain ⟨g6, c6, rfl, hW⟩ := own_wd4 ho6
        have HW := Lib.hid hW
        have q1 := hW.c1
        have HB6 := Lib.hid (HB0.out.trans (hb6.mono HB0.out.size))
        clear ho6 hb6 HPt hW
        go_wp2_with fail
        refine (HD1.out _).mono ?_; rintro e w7 ⟨rfl, hb7⟩
        have HW7 := Lib.hid (HW.out.next hb7)
        have HB7 := Lib.hid (HB6.out.trans (hb7.mono HB6.out.size))
        have r2 := HW7.out.c2
        clear hb7 HB6 HW q1 HD1
        go_wp2_with fail
        refine (HD2.out _).mono ?_; rintro e w8 ⟨rfl, hb8⟩
        have HW8 := Lib.hid (HW7.out.next hb8)
        have HB8 := Lib.hid (HB7.out.trans (hb8.mono HB7.out.size))
        have q3 := HW8.out.c3
        clear hb8 HB7 HW7 r2 HD2
        go_wp2_with fail
        refine (HD3.out _).mono ?_; rintro e w9 ⟨rfl, hb9⟩
        have HW9 := Lib.hid (HW8.out.next hb9)
        have HB9 := Lib.hid (HB8.out.trans (hb9.mono HB8.out.size))
        have r0 := HW9.out.c0
        clear hb9 HB8 HW8 q3 HD3
        go_upto_region 8 with (fail)
        have HBa := Lib.hid (HB9.out.trans (((Below.refl w9.heap.size w9).alloc (Nat.le_refl _) (.cells #[.string x, .int .i64 a1, .int .i64 b1, .slice none 0 0] 26)).mono HB9.out.size))
        obtain ⟨f0, f1, f2, f3, _⟩ := blk4 (heap_alloc_new w9 (.cells #[.string x, .int .i64 a1, .int .i64 b1, .slice none 0 0] 26))
        have HZ := Lib.hid (show w9.heap.size < (w9.alloc (.cells #[.string x, .int .i64 a1, .int .i64 b1, .slice none 0 0] 26)).heap.size by simp)
        generalize w9.alloc (.cells #[.string x, .int .i64 a1, .int .i64 b1, .slice none 0 0] 26) = wa at *
        generalize w9.heap.size = q at *
        clear r0 HW9 HB9
        have HX := Lib.hid HBa.out
        rw [← HW0.out] at HX
        obtain ⟨⟨d0, d1, d2, d3⟩, e0, e1, e2, e3⟩ := res4A_pre HX.out
        have HD := Lib.hid (res4A_post HX.out (.string ⟨#[]⟩) (.int .i64 0) (.int .i64 0) (.slice none 0 0))
        go_wp2_with fail
        obtain ⟨⟨k0, k1, k2, k3⟩, hbz⟩ := HD.out
        refine bodyPost_ret (v := .tuple #[.agg #[.string ⟨#[]⟩, .int .i64 0, .int .i64 0, .slice none 0 0], .int .i64 0, .bool false]) (by simp [results, Tryd.results69, go_sem, k0, k1, k2, k3]) rfl ?_
        exact RetHd.no HR.out hbz
      | some b1 =>
        cases k with
        | none =>
          have HR := Lib.hid (hd3_n3 x a1 b1)
          simp only [Option.getD_some, Option.isSome_some] at HD1 HD2
          simp only [Option.getD_none, Option.isSome_none] at HD3
          obtain ⟨c1, hc1⟩ : ∃ z : Int, 0 = z := ⟨_, rfl⟩
          rw [hc1] at HD3
          clear hc1
          go_enter Tryd.func69, Tryd.ntmps69
          go_wp2_with fail
          obtain ⟨w0, hw0⟩ : ∃ z, w.alloc (.cells #[.string ⟨#[]⟩, .int .i64 0, .int .i64 0, .slice none 0 0] 26) = z := ⟨_, rfl⟩
          have HW0 := Lib.hid hw0
          have HB0 := Lib.hid (Below.refl w0.heap.size w0)
          have HWw := Lib.hid (show w0.heap.size = w.heap.size + 1 by rw [← hw0]; simp)
          (try rw [hw0])
          clear hw0
          refine (HPt.out _).mono ?_; rintro e w6 ⟨v6, rfl, ho6, hb6⟩
          obtain ⟨g6, c6, rfl, hW⟩ := own_wd4 ho6
          have HW := Lib.hid hW
          have q1 := hW.c1
          have HB6 := Lib.hid (HB0.out.trans (hb6.mono HB0.out.size))
          clear ho6 hb6 HPt hW
          go_wp2_with fail
          refine (HD1.out _).mono ?_; rintro e w7 ⟨rfl, hb7⟩
          have HW7 := Lib.hid (HW.out.next hb7)
          have HB7 := Lib.hid (HB6.out.trans (hb7.mono HB6.out.size))
          have r2 := HW7.out.c2
          clear hb7 HB6 HW q1 HD1
          go_wp2_with fail
          refine (HD2.out _).mono ?_; rintro e w8 ⟨rfl, hb8⟩
          have HW8 := Lib.hid (HW7.out.next hb8)
          have HB8 := Lib.hid (HB7.out.trans (hb8.mono HB7.out.size))
          have q3 := HW8.out.c3
          clear hb8 HB7 HW7 r2 HD2
          go_wp2_with fail
          refine (HD3.out _).mono ?_; rintro e w9 ⟨rfl, hb9⟩
          have HW9 := Lib.hid (HW8.out.next hb9)
          have HB9 := Lib.hid (HB8.out.trans (hb9.mono HB8.out.size))
          have r0 := HW9.out.c0
          clear hb9 HB8 HW8 q3 HD3
          go_upto_region 8 with (fail)
          have HBa := Lib.hid (HB9.out.trans (((Below.refl w9.heap.size w9).alloc (Nat.le_refl _) (.cells #[.string x, .int .i64 a1, .int .i64 b1, .slice none 0 0] 26)).mono HB9.out.size))
          obtain ⟨f0, f1, f2, f3, _⟩ := blk4 (heap_alloc_new w9 (.cells #[.string x, .int .i64 a1, .int .i64 b1, .slice none 0 0] 26))
          have HZ := Lib.hid (show w9.heap.size < (w9.alloc (.cells #[.string x, .int .i64 a1, .int .i64 b1, .slice none 0 0] 26)).heap.size by simp)
          generalize w9.alloc (.cells #[.string x, .int .i64 a1, .int .i64 b1, .slice none 0 0] 26) = wa at *
          generalize w9.heap.size = q at *
          clear r0 HW9 HB9
          have HX := Lib.hid HBa.out
          rw [← HW0.out] at HX
          obtain ⟨⟨d0, d1, d2, d3⟩, e0, e1, e2, e3⟩ := res4A_pre HX.out
          have HD := Lib.hid (res4A_post HX.out (.string ⟨#[]⟩) (.int .i64 0) (.int .i64 0) (.slice none 0 0))
          go_wp2_with fail
          obtain ⟨⟨k0, k1, k2, k3⟩, hbz⟩ := HD.out
          refine bodyPost_ret (v := .tuple #[.agg #[.string ⟨#[]⟩, .int .i64 0, .int .i64 0, .slice none 0 0], .int .i64 0, .bool false]) (by simp [results, Tryd.results69, go_sem, k0, k1, k2, k3]) rfl ?_
          exact RetHd.no HR.out hbz
        | some c1 =>
          simp only [Option.getD_some, Option.isSome_some] at HD1 HD2 HD3
          have HM := Lib.hid (fun wx => l00In_any c1 1 60 wx)
          cases hin : inB c1 1 60 with
          | false =>
            have HR := Lib.hid (show hd3 x (some a1) (some b1) (some c1) = none by rw [hd3_s, hdOk_toNat x a1 b1 c1 hin, if_neg (by simp)])
            rw [hin] at HM
            clear hin
            go_enter Tryd.func69, Tryd.ntmps69
            go_wp2_with fail
            obtain ⟨w0, hw0⟩ : ∃ z, w.alloc (.cells #[.string ⟨#[]⟩, .int .i64 0, .int .i64 0, .slice none 0 0] 26) = z := ⟨_, rfl⟩
            have HW0 := Lib.hid hw0
            have HB0 := Lib.hid (Below.refl w0.heap.size w0)
            have HWw := Lib.hid (show w0.heap.size = w.heap.size + 1 by rw [← hw0]; simp)
            (try rw [hw0])
            clear hw0
            refine (HPt.out _).mono ?_; rintro e w6 ⟨v6, rfl, ho6, hb6⟩
            obtain ⟨g6, c6, rfl, hW⟩ := own_wd4 ho6
            have HW := Lib.hid hW
            have q1 := hW.c1
            have HB6 := Lib.hid (HB0.out.trans (hb6.mono HB0.out.size))
            clear ho6 hb6 HPt hW
            go_wp2_with fail
            refine (HD1.out _).mono ?_; rintro e w7 ⟨rfl, hb7⟩
            have HW7 := Lib.hid (HW.out.next hb7)
            have HB7 := Lib.hid (HB6.out.trans (hb7.mono HB6.out.size))
            have r2 := HW7.out.c2
            clear hb7 HB6 HW q1 HD1
            go_wp2_with fail
            refine (HD2.out _).mono ?_; rintro e w8 ⟨rfl, hb8⟩
            have HW8 := Lib.hid (HW7.out.next hb8)
            have HB8 := Lib.hid (HB7.out.trans (hb8.mono HB7.out.size))
            have q3 := HW8.out.c3
            clear hb8 HB7 HW7 r2 HD2
            go_wp2_with fail
            refine (HD3.out _).mono ?_; rintro e w9 ⟨rfl, hb9⟩
            have HW9 := Lib.hid (HW8.out.next hb9)
            have HB9 := Lib.hid (HB8.out.trans (hb9.mono HB8.out.size))
            have r0 := HW9.out.c0
            clear hb9 HB8 HW8 q3 HD3
            go_upto_region 8 with (fail)
            have HBa := Lib.hid (HB9.out.trans (((Below.refl w9.heap.size w9).alloc (Nat.le_refl _) (.cells #[.string x, .int .i64 a1, .int .i64 b1, .slice none 0 0] 26)).mono HB9.out.size))
            obtain ⟨f0, f1, f2, f3, _⟩ := blk4 (heap_alloc_new w9 (.cells #[.string x, .int .i64 a1, .int .i64 b1, .slice none 0 0] 26))
            have HZ := Lib.hid (show w9.heap.size < (w9.alloc (.cells #[.string x, .int .i64 a1, .int .i64 b1, .slice none 0 0] 26)).heap.size by simp)
            generalize w9.alloc (.cells #[.string x, .int .i64 a1, .int .i64 b1, .slice none 0 0] 26) = wa at *
            generalize w9.heap.size = q at *
            clear r0 HW9 HB9
            have HX := Lib.hid HBa.out
            rw [← HW0.out] at HX
            obtain ⟨⟨d0, d1, d2, d3⟩, e0, e1, e2, e3⟩ := res4A_pre HX.out
            have HD := Lib.hid (res4A_post HX.out (.string ⟨#[]⟩) (.int .i64 0) (.int .i64 0) (.slice none 0 0))
            go_wp2_with fail
            refine (HM.out _).mono ?_; rintro e w3 ⟨rfl, rfl⟩
            go_wp2_with fail
            obtain ⟨⟨k0, k1, k2, k3⟩, hbz⟩ := HD.out
            refine bodyPost_ret (v := .tuple #[.agg #[.string ⟨#[]⟩, .int .i64 0, .int .i64 0, .slice none 0 0], .int .i64 0, .bool false]) (by simp [results, Tryd.results69, go_sem, k0, k1, k2, k3]) rfl ?_
            exact RetHd.no HR.out hbz
          | true =>
            have hc1 := inB_iff.1 hin
            rw [hin] at HM
            clear hin
            obtain ⟨m, rfl⟩ : ∃ m : Nat, c1 = (m : Int) := ⟨c1.toNat, by omega⟩
            have hm1 : 1 ≤ m := by omega
            have hm60 : m ≤ 60 := by omega
            clear hc1
            have HR := Lib.hid (hd3_s x a1 b1 (m : Int))
            have HV := Lib.hid (fun (g : Nat) (wx : World) (A : Option Addr) (c : Nat) => l18Ok_c g wx.heap.size x a1 b1 A m c (fun _ => 0) wx (show x.size ≤ 1048576 by omega))
            rw [pgOk_zero] at HV
            obtain ⟨o, ho⟩ : ∃ o, hdOk x a1 b1 m = o := ⟨_, rfl⟩
            rw [ho] at HV
            have HO := Lib.hid (show hdOk x a1 b1 ((m : Int).toNat) = o by rw [Int.toNat_natCast, ho])
            clear ho
            go_enter Tryd.func69, Tryd.ntmps69
            go_wp2_with fail
            obtain ⟨w0, hw0⟩ : ∃ z, w.alloc (.cells #[.string ⟨#[]⟩, .int .i64 0, .int .i64 0, .slice none 0 0] 26) = z := ⟨_, rfl⟩
            have HW0 := Lib.hid hw0
            have HB0 := Lib.hid (Below.refl w0.heap.size w0)
            have HWw := Lib.hid (show w0.heap.size = w.heap.size + 1 by rw [← hw0]; simp)
            (try rw [hw0])
            clear hw0
            refine (HPt.out _).mono ?_; rintro e w6 ⟨v6, rfl, ho6, hb6⟩
            obtain ⟨g6, c6, rfl, hW⟩ := own_wd4 ho6
            have HW := Lib.hid hW
            have q1 := hW.c1
            have HB6 := Lib.hid (HB0.out.trans (hb6.mono HB0.out.size))
            clear ho6 hb6 HPt hW
            go_wp2_with fail
            refine (HD1.out _).mono ?_; rintro e w7 ⟨rfl, hb7⟩
            have HW7 := Lib.hid (HW.out.next hb7)
            have HB7 := Lib.hid (HB6.out.trans (hb7.mono HB6.out.size))
            have r2 := HW7.out.c2
            clear hb7 HB6 HW q1 HD1
            go_wp2_with fail
            refine (HD2.out _).mono ?_; rintro e w8 ⟨rfl, hb8⟩
            have HW8 := Lib.hid (HW7.out.next hb8)
            have HB8 := Lib.hid (HB7.out.trans (hb8.mono HB7.out.size))
            have q3 := HW8.out.c3
            clear hb8 HB7 HW7 r2 HD2
            go_wp2_with fail
            refine (HD3.out _).mono ?_; rintro e w9 ⟨rfl, hb9⟩
            have HW9 := Lib.hid (HW8.out.next hb9)
            have HB9 := Lib.hid (HB8.out.trans (hb9.mono HB8.out.size))
            have r0 := HW9.out.c0
            clear hb9 HB8 HW8 q3 HD3
            go_upto_region 8 with (fail)
            have HBa := Lib.hid (HB9.out.trans (((Below.refl w9.heap.size w9).alloc (Nat.le_refl _) (.cells #[.string x, .int .i64 a1, .int .i64 b1, .slice none 0 0] 26)).mono HB9.out.size))
            obtain ⟨f0, f1, f2, f3, _⟩ := blk4 (heap_alloc_new w9 (.cells #[.string x, .int .i64 a1, .int .i64 b1, .slice none 0 0] 26))
            have HZ := Lib.hid (show w9.heap.size < (w9.alloc (.cells #[.string x, .int .i64 a1, .int .i64 b1, .slice none 0 0] 26)).heap.size by simp)
            generalize w9.alloc (.cells #[.string x, .int .i64 a1, .int .i64 b1, .slice none 0 0] 26) = wa at *
            generalize w9.heap.size = q at *
            clear r0 HW9 HB9
            go_wp2_with fail
            refine (HM.out _).mono ?_; rintro e w3 ⟨rfl, rfl⟩
            go_upto_region 11 with (fail)
            have hbb := (Below.refl wa.heap.size wa).alloc (Nat.le_refl _) (.cells #[.string x, .int .i64 a1, .int .i64 b1, .slice none 0 0] 26)
            have hPn := heap_alloc_new wa (.cells #[.string x, .int .i64 a1, .int .i64 b1, .slice none 0 0] 26)
            have hln : wa.heap.size < (wa.alloc (.cells #[.string x, .int .i64 a1, .int .i64 b1, .slice none 0 0] 26)).heap.size := by simp
            have f0 := (hbb.cell (p := ⟨q, 0, none⟩) HZ.out).trans f0
            have f1 := (hbb.cell (p := ⟨q, 1, none⟩) HZ.out).trans f1
            have f2 := (hbb.cell (p := ⟨q, 2, none⟩) HZ.out).trans f2
            have f3 := (hbb.cell (p := ⟨q, 3, none⟩) HZ.out).trans f3
            have hqb : q < (wa.alloc (.cells #[.string x, .int .i64 a1, .int .i64 b1, .slice none 0 0] 26)).heap.size := Nat.lt_of_lt_of_le HZ.out hbb.size
            have hqp : q < wa.heap.size := HZ.out
            have HBb := Lib.hid (HBa.out.trans (hbb.mono HBa.out.size))
            have hzb := HBa.out.size
            generalize wa.alloc (.cells #[.string x, .int .i64 a1, .int .i64 b1, .slice none 0 0] 26) = wb at *
            generalize wa.heap.size = qp at *
            obtain ⟨wm, hm, hom, hbm⟩ := mk_ints m (by omega) wb
            have hPm := (hbm.block qp hln).trans hPn
            obtain ⟨_, _, _, p3, pz⟩ := blk4 hPm
            have p3z := pz 3
            have hPz := heap_setCell_same wm qp 3 _ _ (.slice (some ⟨wb.heap.size, 0, none⟩) m m) hPm
            have HRd := Lib.hid (Rd.of_own (ownsRow_setCell_other hom (a := ⟨qp, 3, none⟩) (own_ne hom hPm (by decide)) (.slice (some ⟨wb.heap.size, 0, none⟩) m m)))
            have hbz : Below w0.heap.size w0 (wm.setCell ⟨qp, 3, none⟩ (.slice (some ⟨wb.heap.size, 0, none⟩) m m)) := (HBb.out.trans (hbm.mono HBb.out.size)).setCell (p := ⟨qp, 3, none⟩) hzb _
            have HBz := Lib.hid hbz
            have hne : q ≠ qp := Nat.ne_of_lt hqp
            have hqm : q < wm.heap.size := Nat.lt_of_lt_of_le hqb hbm.size
            have hqz : q < (wm.setCell ⟨qp, 3, none⟩ (.slice (some ⟨wb.heap.size, 0, none⟩) m m)).heap.size := by simpa using hqm
            have hblk : ∀ i x, wb.cell? ⟨q, i, none⟩ = x → (wm.setCell ⟨qp, 3, none⟩ (.slice (some ⟨wb.heap.size, 0, none⟩) m m)).cell? ⟨q, i, none⟩ = x := fun i x hx => by
              rw [← hx, ← hbm.cell (p := ⟨q, i, none⟩) hqb]
              exact World.cell?_of_block (a := ⟨q, i, none⟩) (Below.heap_setCell wm ⟨qp, 3, none⟩ _ q hne)
            have f0 := hblk 0 _ f0
            have f1 := hblk 1 _ f1
            have f2 := hblk 2 _ f2
            have f3 := hblk 3 _ f3
            clear hPn hln hqb hqp hzb hbm hPm pz hbz hblk hbb hne hqm hom
            go_upto_region 12 with (fail)
            generalize wm.setCell ⟨qp, 3, none⟩ (.slice (some ⟨wb.heap.size, 0, none⟩) m m) = wz at *
            clear p3 p3z hm
            obtain ⟨p0, p1, p2, p3, _⟩ := blk4 hPz
            clear hPz
            refine wp_region_noPanic ?_
            refine wp_region_L [5,4,3] (fun w' => w'.cell? ⟨q, 0, none⟩ = some (.string x) ∧ w'.cell? ⟨q, 1, none⟩ = some (.int .i64 a1) ∧ w'.cell? ⟨q, 2, none⟩ = some (.int .i64 b1) ∧ w'.cell? ⟨q, 3, none⟩ = some (.slice none 0 0)) (by kernel_rfl) (⟨f0, f1, f2, f3⟩) (fun hHeld => ?_)
            refine take_L [0] (i := 0) (d := some 67) (v := ?_) (by kernel_rfl) (by kernel_rfl) (by kernel_rfl) (by kernel_rfl) rfl rfl (by kernel_rfl) (by kernel_rfl) (by kernel_rfl) (fun _ _ _ h => h) (Or.inl ⟨by rfl, ?_⟩) (by assumption) ?_
            rotate_left
            · (intro w hSw; (try dsimp only at hSw); go_simp; (try rw [if_neg (by omega)]); (try (with_reducible rfl)))
            simp only [Act.put, List.setIfInBounds_toArray, List.set_cons_zero, List.set_cons_succ]
            refine take_F (i := 1) (d := some 68) (v := ?_) (by kernel_rfl) (by kernel_rfl) rfl rfl (by kernel_rfl) (by kernel_rfl) (by kernel_rfl) (fun _ _ _ h => h) (Or.inl ⟨by rfl, ?_⟩) (by assumption) ?_
            rotate_left
            · (intro w hSw; (try dsimp only at hSw); go_simp; (try rw [if_neg (by omega)]); (try (with_reducible rfl)))
            simp only [Act.put, List.setIfInBounds_toArray, List.set_cons_zero, List.set_cons_succ]
            refine call_L (i := 2) (d := (some 69)) rfl rfl (by kernel_rfl) (fun Kq hKq => ?_)
            go_simp
            go_at_call 36
            refine (HV.out qp wz.drew _ _ p0 p1 p2 p3 (HRd.out.drewN 1) (by omega)).mono ?_; rintro e w3 ⟨rfl, d, hd⟩
            have hbd : Below wz.heap.size wz w3 := by rw [hd]; exact below_drewN (Below.refl _ _).drew d
            have HX := Lib.hid (HBz.out.trans (hbd.mono HBz.out.size))
            rw [← HW0.out] at HX
            obtain ⟨⟨d0, d1, d2, d3⟩, e0, e1, e2, e3⟩ := res4A_pre HX.out
            have HD := Lib.hid (res4A_post HX.out (.string x) (.int .i64 a1) (.int .i64 b1) (.slice none 0 0))
            have m0 := (hbd.cell (p := ⟨q, 0, none⟩) hqz).trans f0
            have m1 := (hbd.cell (p := ⟨q, 1, none⟩) hqz).trans f1
            have m2 := (hbd.cell (p := ⟨q, 2, none⟩) hqz).trans f2
            have m3 := (hbd.cell (p := ⟨q, 3, none⟩) hqz).trans f3
            clear hd hbd f0 f1 f2 f3 p0 p1 p2 p3
            (try go_wp2_with fail)
            refine hKq.out _ _ (⟨m0, m1, m2, m3⟩) (fun hHeld => ?_)
            clear hKq Kq
            (try simp only [Act.put, List.setIfInBounds_toArray, List.set_cons_zero, List.set_cons_succ])
            refine late_L (i := 3) (d := none) (by kernel_rfl) rfl rfl (by kernel_rfl) (fun Kq hKq => ?_)
            go_simp
            refine hKq.out _ _ ?_
            clear hKq Kq
            refine late_L (i := 4) (d := (some 3)) (by kernel_rfl) rfl rfl (by kernel_rfl) (fun Kq hKq => ?_)
            go_simp
            refine hKq.out _ _ ?_
            clear hKq Kq
            refine late_L (i := 5) (d := (some 4)) (by kernel_rfl) rfl rfl (by kernel_rfl) (fun Kq hKq => ?_)
            go_simp
            refine hKq.out _ _ ?_
            clear hKq Kq
            refine done_L (by kernel_rfl) ?_ _
            refine NoPanic.normal ?_
            go_wp2_with fail
            obtain ⟨⟨k0, k1, k2, k3⟩, hbz⟩ := HD.out
            refine bodyPost_ret (v := .tuple #[.agg #[.string x, .int .i64 a1, .int .i64 b1, .slice none 0 0], .int .i64 (m : Int), .bool o]) (by simp [results, Tryd.results69, go_sem, k0, k1, k2, k3]) rfl ?_
            exact RetHd.ok HR.out HO.out hbz
  · have HR := Lib.hid (hdR_not h4)
    have h4' : ¬ (((splitB 32 l).length : Int) = 4) := by omega
    clear h4
    have HB0 := Lib.hid (Below.refl (w.alloc (.cells #[.string ⟨#[]⟩, .int .i64 0, .int .i64 0, .slice none 0 0] 26)).heap.size (w.alloc (.cells #[.string ⟨#[]⟩, .int .i64 0, .int .i64 0, .slice none 0 0] 26)))
    go_enter Tryd.func69, Tryd.ntmps69
    go_wp2_with fail
    refine (HPt.out _).mono ?_; rintro e w5 ⟨v5, rfl, ho5, hb5⟩
    have HB5 := Lib.hid (HB0.out.trans (hb5.mono HB0.out.size))
    obtain ⟨A5, c5, rfl⟩ := sl_of_own ho5
    obtain ⟨⟨d0, d1, d2, d3⟩, e0, e1, e2, e3⟩ := res4A_pre HB5.out
    have HD := Lib.hid (res4A_post HB5.out (.string ⟨#[]⟩) (.int .i64 0) (.int .i64 0) (.slice none 0 0))
    generalize (splitB 32 l).length = n at *
    clear ho5 hb5 HPt HB0
    go_wp2_with fail
    obtain ⟨⟨k0, k1, k2, k3⟩, hbz⟩ := HD.out
    refine bodyPost_ret (v := .tuple #[.agg #[.string ⟨#[]⟩, .int .i64 0, .int .i64 0, .slice none 0 0], .int .i64 0, .bool false]) (by simp [results, Tryd.results69, go_sem, k0, k1, k2, k3]) rfl ?_
    exact RetHd.no HR.out hbz
end Go.Proofs.YtnhngccfbnnpoaaDoor
