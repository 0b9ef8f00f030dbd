/- Merged texts: Pa11. -/
import Derived.Test.YtnhngccfbnnpoaaDoorGCardPages9
/- Printed pages, part 11: JoinPages of both sides (gen_pa11.py). -/
namespace Go.Proofs.YtnhngccfbnnpoaaDoor
open Go.RowKit Go.Joins

theorem argumentB_c (s : ByteArray) (a b r : Int) (A : Option Addr) (n c : Nat) (w : World) (ha : -1000000 ≤ a ∧ a ≤ 1000000) (hP : 0 ≤ r * b ∧ r * b ≤ 60000) :
    Calls Tryd.prog 45 #[.agg #[.string s, .int .i64 a, .int .i64 b, .slice A n c], .int .i64 r] w fun e w' => e = .returned (.int .i64 (a + r * b)) ∧ Below w.heap.size w w' := by
  have hb1 := (Below.refl w.heap.size w).alloc (Nat.le_refl _) (.cells #[.string s, .int .i64 a, .int .i64 b, .slice A n c] 26)
  have Hb1 := Lib.hid hb1
  obtain ⟨f0, f1, f2, f3, _⟩ := blk4 (heap_alloc_new w (.cells #[.string s, .int .i64 a, .int .i64 b, .slice A n c] 26))
  obtain ⟨ha1, ha2⟩ := ha
  obtain ⟨P, hPe⟩ : ∃ P, r * b = P := ⟨_, rfl⟩
  rw [hPe] at hP
  obtain ⟨hP1, hP2⟩ := hP
  have hw : IntKind.i64.wrap (r * b) = P := by rw [hPe]; exact IntWalk.i64_in _ (by omega)
  have HP := Lib.hid hPe
  clear hb1 hPe
  go_enter Tryd.func45, Tryd.ntmps45
  go_wp2_with fail
  generalize w.alloc (.cells #[.string s, .int .i64 a, .int .i64 b, .slice A n c] 26) = w1 at *
  go_wp2_with fail
  go_ret
  exact ⟨ret_int (by rw [HP.out]), Hb1.out⟩
def catA (n : Nat) (f g : Nat → Int) (i : Nat) : Int := if i < n then f i else g (i - n)
theorem catA_tab (n m : Nat) (f g : Nat → Int) : tab (n + m) (catA n f g) = tab n f ++ tab m g := by
  unfold tab
  rw [List.range_add, List.map_append, List.map_map]
  congr 1
  · refine List.map_congr_left fun i hi => ?_
    have := List.mem_range.1 hi
    unfold catA
    rw [if_pos this]
  · refine List.map_congr_left fun i _ => ?_
    show Value.int .i64 (catA n f g (n + i)) = _
    unfold catA
    rw [if_neg (by omega)]
    congr 2
    omega
def jpC (s : ByteArray) (a b : Int) (n : Nat) (f : Nat → Int) (s' : ByteArray) (a' b' : Int) (m : Nat) (g : Nat → Int) : Int :=
  if (pgOk s.data.toList a b n f && pgOk s'.data.toList a' b' m g) = true then (if s = s' ∧ b = b' ∧ a' = a + (n : Int) * b then (if pgOk s.data.toList a b (n + m) (catA n f g) = true then 0 else 5) else 6) else 1
theorem jp_one {s : ByteArray} {a b : Int} {n : Nat} {f : Nat → Int} {s' : ByteArray} {a' b' : Int} {m : Nat} {g : Nat → Int} (h : pgOk s.data.toList a b n f = false) : jpC s a b n f s' a' b' m g = 1 := by unfold jpC; rw [h]; rfl
theorem jp_two {s : ByteArray} {a b : Int} {n : Nat} {f : Nat → Int} {s' : ByteArray} {a' b' : Int} {m : Nat} {g : Nat → Int} (h : pgOk s'.data.toList a' b' m g = false) : jpC s a b n f s' a' b' m g = 1 := by
  unfold jpC
  rw [h, Bool.and_false]; rfl
theorem jp_st {s : ByteArray} {a b : Int} {n : Nat} {f : Nat → Int} {s' : ByteArray} {a' b' : Int} {m : Nat} {g : Nat → Int} (h : pgOk s.data.toList a b n f = true) (h2 : pgOk s'.data.toList a' b' m g = true) (h3 : ¬ (s = s' ∧ b = b' ∧ a' = a + (n : Int) * b)) : jpC s a b n f s' a' b' m g = 6 := by unfold jpC; rw [h, h2, if_neg h3]; rfl
theorem jp_go {s : ByteArray} {a b : Int} {n : Nat} {f : Nat → Int} {m : Nat} {g : Nat → Int} (h : pgOk s.data.toList a b n f = true) (h2 : pgOk s.data.toList (a + (n : Int) * b) b m g = true) : jpC s a b n f s (a + (n : Int) * b) b m g = if pgOk s.data.toList a b (n + m) (catA n f g) = true then 0 else 5 := by unfold jpC; rw [h, h2, if_pos (show s = s ∧ b = b ∧ a + (n : Int) * b = a + (n : Int) * b from ⟨rfl, rfl, rfl⟩)]; rfl
def zHd (c : Int) (h : Hd) : Hd := if c = 0 then h else ⟨⟨#[]⟩, 0, 0, 0⟩
/-- a page of the call's own, none where the code is not 0 -/
def RetJn (c : Int) (h : Hd) (F : Nat → Int) (w : World) (e : Ending) (w' : World) : Prop :=
  ∃ v, e = .returned (.tuple #[.agg #[.string (zHd c h).nm, .int .i64 (zHd c h).a, .int .i64 (zHd c h).b, v], .int .i64 c]) ∧ w'.ownsRow w.heap.size 2 1 v (zHd c h).n (tab (zHd c h).n F) ∧ Below w.heap.size w w'
theorem RetJn.no {code c : Int} {h : Hd} {F : Nat → Int} {w w' : World} (he : code = c) (hc : c ≠ 0) (hb : Below w.heap.size w w') : RetJn code h F w (.returned (.tuple #[.agg #[.string ⟨#[]⟩, .int .i64 0, .int .i64 0, .slice none 0 0], .int .i64 c])) w' := by
  subst he
  unfold RetJn zHd
  rw [if_neg hc]
  exact ⟨_, rfl, ⟨rfl, .inl ⟨rfl, rfl⟩⟩, hb⟩
theorem RetJn.yes {code : Int} {h : Hd} {F : Nat → Int} {w w' : World} {v : Value} (he : code = 0) (ho : w'.ownsRow w.heap.size 2 1 v h.n (tab h.n F)) (hb : Below w.heap.size w w') : RetJn code h F w (.returned (.tuple #[.agg #[.string h.nm, .int .i64 h.a, .int .i64 h.b, v], .int .i64 0])) w' := by
  subst he
  exact ⟨_, rfl, ho, hb⟩
/-- two pages and a result in blocks of their own -/
structure JnW (w wq : World) (x0 x1 x2 x3 y0 y1 y2 y3 : Value) : Prop where
  hA : wq.heap[w.heap.size]? = some (.cells #[x0, x1, x2, x3] 26 (0, 0))
  hB : wq.heap[w.heap.size + 1]? = some (.cells #[y0, y1, y2, y3] 26 (0, 0))
  hZ : wq.heap[w.heap.size + 2]? = some (.cells #[.string ⟨#[]⟩, .int .i64 0, .int .i64 0, .slice none 0 0] 26 (0, 0))
  bel : Below w.heap.size w wq
  sz : w.heap.size + 3 ≤ wq.heap.size
theorem JnW.below' {w wq wq' : World} {B : Nat} {x0 x1 x2 x3 y0 y1 y2 y3 : Value} (h : JnW w wq x0 x1 x2 x3 y0 y1 y2 y3) (hb : Below B wq wq') (hB : w.heap.size + 3 ≤ B) : JnW w wq' x0 x1 x2 x3 y0 y1 y2 y3 :=
  ⟨(hb.block _ (by omega)).trans h.hA, (hb.block _ (by omega)).trans h.hB, (hb.block _ (by omega)).trans h.hZ, h.bel.trans (hb.mono (by omega)), Nat.le_trans h.sz hb.size⟩
theorem JnW.below {w wq wq' : World} {x0 x1 x2 x3 y0 y1 y2 y3 : Value} (h : JnW w wq x0 x1 x2 x3 y0 y1 y2 y3) (hb : Below wq.heap.size wq wq') : JnW w wq' x0 x1 x2 x3 y0 y1 y2 y3 := h.below' hb h.sz
theorem JnW.new (w : World) (x0 x1 x2 x3 y0 y1 y2 y3 : Value) : JnW w (((w.alloc (.cells #[x0, x1, x2, x3] 26)).alloc (.cells #[y0, y1, y2, y3] 26)).alloc (.cells #[.string ⟨#[]⟩, .int .i64 0, .int .i64 0, .slice none 0 0] 26)) x0 x1 x2 x3 y0 y1 y2 y3 := by
  refine ⟨?_, ?_, ?_, (((Below.refl w.heap.size w).alloc (Nat.le_refl _) _).alloc (by simp) _).alloc (by simp; omega) _, by simp⟩
  · show (((w.heap.push _).push _).push _)[w.heap.size]? = _
    simp only [Array.getElem?_push, Array.size_push]
    rw [if_neg (by omega), if_neg (by omega), if_pos trivial]
  · show (((w.heap.push _).push _).push _)[w.heap.size + 1]? = _
    simp only [Array.getElem?_push, Array.size_push]
    rw [if_neg (by omega), if_pos trivial]
  · show (((w.heap.push _).push _).push _)[w.heap.size + 2]? = _
    simp only [Array.getElem?_push, Array.size_push]
    rw [if_pos trivial]
theorem JnW.cA {w wq : World} {x0 x1 x2 x3 y0 y1 y2 y3 : Value} (h : JnW w wq x0 x1 x2 x3 y0 y1 y2 y3) : wq.cell? ⟨w.heap.size, 0, none⟩ = some x0 ∧ wq.cell? ⟨w.heap.size, 1, none⟩ = some x1 ∧ wq.cell? ⟨w.heap.size, 2, none⟩ = some x2 ∧ wq.cell? ⟨w.heap.size, 3, none⟩ = some x3 ∧ wq.frozen? ⟨w.heap.size, 3, none⟩ = false := by
  obtain ⟨h0, h1, h2, h3, h4⟩ := blk4 h.hA
  exact ⟨h0, h1, h2, h3, h4 3⟩
theorem JnW.cB {w wq : World} {x0 x1 x2 x3 y0 y1 y2 y3 : Value} (h : JnW w wq x0 x1 x2 x3 y0 y1 y2 y3) : wq.cell? ⟨w.heap.size + 1, 0, none⟩ = some y0 ∧ wq.cell? ⟨w.heap.size + 1, 1, none⟩ = some y1 ∧ wq.cell? ⟨w.heap.size + 1, 2, none⟩ = some y2 ∧ wq.cell? ⟨w.heap.size + 1, 3, none⟩ = some y3 := by
  obtain ⟨h0, h1, h2, h3, _⟩ := blk4 h.hB
  exact ⟨h0, h1, h2, h3⟩
theorem JnW.cZ {w wq : World} {x0 x1 x2 x3 y0 y1 y2 y3 : Value} (h : JnW w wq x0 x1 x2 x3 y0 y1 y2 y3) : (wq.cell? ⟨w.heap.size + 2, 0, none⟩ = some (.string ⟨#[]⟩) ∧ wq.cell? ⟨w.heap.size + 2, 1, none⟩ = some (.int .i64 0) ∧ wq.cell? ⟨w.heap.size + 2, 2, none⟩ = some (.int .i64 0) ∧ wq.cell? ⟨w.heap.size + 2, 3, none⟩ = some (.slice none 0 0)) ∧
    (wq.frozen? ⟨w.heap.size + 2, 0, none⟩ = false ∧ wq.frozen? ⟨w.heap.size + 2, 1, none⟩ = false ∧ wq.frozen? ⟨w.heap.size + 2, 2, none⟩ = false ∧ wq.frozen? ⟨w.heap.size + 2, 3, none⟩ = false) := by
  obtain ⟨h0, h1, h2, h3, h4⟩ := blk4 h.hZ
  exact ⟨⟨h0, h1, h2, h3⟩, h4 0, h4 1, h4 2, h4 3⟩
theorem JnW.setA {w wq : World} {x0 x1 x2 x3 y0 y1 y2 y3 : Value} (h : JnW w wq x0 x1 x2 x3 y0 y1 y2 y3) (v : Value) : JnW w (wq.setCell ⟨w.heap.size, 3, none⟩ v) x0 x1 x2 v y0 y1 y2 y3 :=
  ⟨heap_setCell_same wq _ 3 _ _ v h.hA, (Below.heap_setCell wq ⟨w.heap.size, 3, none⟩ v _ (by show w.heap.size + 1 ≠ w.heap.size; omega)).trans h.hB, (Below.heap_setCell wq ⟨w.heap.size, 3, none⟩ v _ (by show w.heap.size + 2 ≠ w.heap.size; omega)).trans h.hZ, h.bel.setCell (p := ⟨w.heap.size, 3, none⟩) (Nat.le_refl _) v, by have := h.sz; simpa using this⟩
theorem JnW.fin {w wq : World} {x0 x1 x2 x3 y0 y1 y2 y3 : Value} (h : JnW w wq x0 x1 x2 x3 y0 y1 y2 y3) (a b c d : Value) :
    ((put4A wq (w.heap.size + 2) a b c d).cell? ⟨w.heap.size + 2, 0, none⟩ = some a ∧ (put4A wq (w.heap.size + 2) a b c d).cell? ⟨w.heap.size + 2, 1, none⟩ = some b ∧ (put4A wq (w.heap.size + 2) a b c d).cell? ⟨w.heap.size + 2, 2, none⟩ = some c ∧ (put4A wq (w.heap.size + 2) a b c d).cell? ⟨w.heap.size + 2, 3, none⟩ = some d) ∧ Below w.heap.size w (put4A wq (w.heap.size + 2) a b c d) := by
  obtain ⟨h0, h1, h2, h3, _⟩ := blk4 (set4 h.hZ a b c d)
  exact ⟨⟨h0, h1, h2, h3⟩, set4_below h.bel (by omega) a b c d⟩
set_option maxRecDepth 100000 in
set_option maxHeartbeats 3200000 in
theorem JoinI_any (B : Nat) (s : ByteArray) (a b : Int) (A : Option Addr) (n c : Nat) (f : Nat → Int) (B' : Nat) (s' : ByteArray) (a' b' : Int) (A' : Option Addr) (m c' : Nat) (g : Nat → Int) (w : World) (hs : s.size ≤ 1048576) (h : Rd w B (.slice A n c) n 1 (tab n f)) (hB : B ≤ w.heap.size) (hn : n ≤ 1000) (hs' : s'.size ≤ 1048576) (h' : Rd w B' (.slice A' m c') m 1 (tab m g)) (hB' : B' ≤ w.heap.size) (hm : m ≤ 1000) :
    Calls Tryd.prog 17 #[.agg #[.string s, .int .i64 a, .int .i64 b, .slice A n c], .agg #[.string s', .int .i64 a', .int .i64 b', .slice A' m c']] w (RetJn (jpC s a b n f s' a' b' m g) ⟨s, a, b, n + m⟩ (catA n f g) w) := by
  have HV1 := Lib.hid (fun wq (hq : Below w.heap.size w wq) => ValidPageI_c B s a b A n c f wq hs (h.below (hq.mono hB)) (Nat.le_trans hB hq.size) hn)
  have HV2 := Lib.hid (fun wq (hq : Below w.heap.size w wq) => ValidPageI_c B' s' a' b' A' m c' g wq hs' (h'.below (hq.mono hB')) (Nat.le_trans hB' hq.size) hm)
  have H1 := Lib.hid h
  have H2 := Lib.hid h'
  clear h h'
  cases hok1 : pgOk s.data.toList a b n f with
  | false =>
    have HC := Lib.hid (jp_one (s' := s') (a' := a') (b' := b') (m := m) (g := g) hok1)
    rw [hok1] at HV1
    clear hok1 HV2
    go_enter Tryd.func17, Tryd.ntmps17
    go_wp2_with fail
    obtain ⟨w0, hw0⟩ : ∃ z, (((w.alloc (.cells #[.string s, .int .i64 a, .int .i64 b, .slice A n c] 26)).alloc (.cells #[.string s', .int .i64 a', .int .i64 b', .slice A' m c'] 26)).alloc (.cells #[.string ⟨#[]⟩, .int .i64 0, .int .i64 0, .slice none 0 0] 26)) = z := ⟨_, rfl⟩
    have JN0 := Lib.hid (JnW.new w (.string s) (.int .i64 a) (.int .i64 b) (.slice A n c) (.string s') (.int .i64 a') (.int .i64 b') (.slice A' m c'))
    rw [hw0] at JN0
    (try rw [hw0])
    clear hw0
    refine (HV1.out _ JN0.out.bel).mono ?_; rintro e w1 ⟨rfl, hb1⟩
    have JN1 := Lib.hid (JN0.out.below hb1)
    clear hb1
    obtain ⟨⟨z0, z1, z2, z3⟩, y0, y1, y2, y3⟩ := JN1.out.cZ
    have HD := Lib.hid (JN1.out.fin (.string ⟨#[]⟩) (.int .i64 0) (.int .i64 0) (.slice none 0 0))
    go_wp2_with fail
    obtain ⟨⟨k0, k1, k2, k3⟩, hbz⟩ := HD.out
    refine bodyPost_ret (v := .tuple #[.agg #[.string ⟨#[]⟩, .int .i64 0, .int .i64 0, .slice none 0 0], .int .i64 1]) (by simp [results, Tryd.results17, go_sem, k0, k1, k2, k3]) rfl ?_
    first | exact RetJn.no HC.out (by decide) hbz | exact RetJn.no HC.out (by decide) hbz.drew | exact RetJn.no HC.out (by decide) (below_drewN hbz _)
  | true =>
    cases hok2 : pgOk s'.data.toList a' b' m g with
    | false =>
      have HC := Lib.hid (jp_two (s := s) (a := a) (b := b) (n := n) (f := f) hok2)
      rw [hok1] at HV1
      rw [hok2] at HV2
      clear hok1 hok2
      go_enter Tryd.func17, Tryd.ntmps17
      go_wp2_with fail
      obtain ⟨w0, hw0⟩ : ∃ z, (((w.alloc (.cells #[.string s, .int .i64 a, .int .i64 b, .slice A n c] 26)).alloc (.cells #[.string s', .int .i64 a', .int .i64 b', .slice A' m c'] 26)).alloc (.cells #[.string ⟨#[]⟩, .int .i64 0, .int .i64 0, .slice none 0 0] 26)) = z := ⟨_, rfl⟩
      have JN0 := Lib.hid (JnW.new w (.string s) (.int .i64 a) (.int .i64 b) (.slice A n c) (.string s') (.int .i64 a') (.int .i64 b') (.slice A' m c'))
      rw [hw0] at JN0
      (try rw [hw0])
      clear hw0
      refine (HV1.out _ JN0.out.bel).mono ?_; rintro e w1 ⟨rfl, hb1⟩
      have JN1 := Lib.hid (JN0.out.below hb1)
      clear hb1
      obtain ⟨a0, a1, a2, a3, az⟩ := JN1.out.cA
      obtain ⟨b0, b1, b2, b3⟩ := JN1.out.cB
      go_wp2_with fail
      refine (HV2.out _ JN1.out.bel).mono ?_; rintro e w2 ⟨rfl, hb2⟩
      have JN2 := Lib.hid (JN1.out.below hb2)
      clear hb2
      clear a0 a1 a2 a3 az b0 b1 b2 b3
      obtain ⟨⟨z0, z1, z2, z3⟩, y0, y1, y2, y3⟩ := JN2.out.cZ
      have HD := Lib.hid (JN2.out.fin (.string ⟨#[]⟩) (.int .i64 0) (.int .i64 0) (.slice none 0 0))
      go_wp2_with fail
      obtain ⟨⟨k0, k1, k2, k3⟩, hbz⟩ := HD.out
      refine bodyPost_ret (v := .tuple #[.agg #[.string ⟨#[]⟩, .int .i64 0, .int .i64 0, .slice none 0 0], .int .i64 1]) (by simp [results, Tryd.results17, go_sem, k0, k1, k2, k3]) rfl ?_
      first | exact RetJn.no HC.out (by decide) hbz | exact RetJn.no HC.out (by decide) hbz.drew | exact RetJn.no HC.out (by decide) (below_drewN hbz _)
    | true =>
      have HG1 := Lib.hid (pgF hok1)
      have HG2 := Lib.hid (pgF hok2)
      have HK1 := Lib.hid hok1
      have HK2 := Lib.hid hok2
      rw [hok1] at HV1
      rw [hok2] at HV2
      clear hok1 hok2
      have hn1 := HG1.out.n1
      have hn60 := HG1.out.n60
      have hm1 := HG2.out.n1
      have hm60 := HG2.out.n60
      obtain ⟨ha0, ha1⟩ := HG1.out.a0
      obtain ⟨hb0, hb2⟩ := HG1.out.b0
      have hP : 0 ≤ (n : Int) * b ∧ (n : Int) * b ≤ 60000 := by
        have e1 := Int.mul_nonneg (show 0 ≤ (n : Int) by omega) (show 0 ≤ b by omega)
        obtain ⟨bb, rfl⟩ : ∃ bb : Nat, b = (bb : Int) := ⟨b.toNat, by omega⟩
        have e2 : n * bb ≤ 60 * 1000 := Nat.mul_le_mul hn60 (by omega)
        have e3 : (n : Int) * (bb : Int) = ((n * bb : Nat) : Int) := by simp
        rw [e3]; omega
      have HAr := Lib.hid (fun wx => argumentB_c s a b (n : Int) A n c wx ⟨ha0, ha1⟩ hP)
      obtain ⟨hP0, hP1⟩ := hP
      by_cases hss : s = s'
      · subst hss
        by_cases hbb : b = b'
        · subst hbb
          by_cases haa : a' = a + (n : Int) * b
          · have HC := Lib.hid (show jpC s a b n f s a' b m g = if pgOk s.data.toList a b (n + m) (catA n f g) = true then 0 else 5 by rw [haa] at HK2 ⊢; exact jp_go HK1.out HK2.out)
            obtain ⟨P, hPe⟩ : ∃ P, (n : Int) * b = P := ⟨_, rfl⟩
            rw [hPe] at HAr hP0 hP1 haa
            have hwp : IntKind.i64.wrap ((n : Int) * b) = P := by rw [hPe]; exact IntWalk.i64_in _ (by omega)
            have hwa : IntKind.i64.wrap (a + P) = a + P := IntWalk.i64_in _ (by omega)
            obtain ⟨Q, hQ⟩ : ∃ Q, a + P = Q := ⟨_, rfl⟩
            rw [hQ] at HAr haa hwa
            subst haa
            have HPe := Lib.hid hPe
            have HQ := Lib.hid hQ
            clear hPe hQ
            have HLm := Lib.hid (show (tab m g).length = m * 1 by rw [tab_len, Nat.mul_one])
            have Hmx := Lib.hid (show n + m ≤ maxLen by simp only [maxLen]; omega)
            have Hby := Lib.hid (show (n + m) * 8 ≤ 140737488355328 by omega)
            obtain ⟨gb, ob, hA', hgb, hcc'⟩ := rdF_all H2.out (show 0 < m by omega)
            subst hA'
            have HCc := Lib.hid (fun wq (hq : Below w.heap.size w wq) i u (hu : (tab m g)[i]? = some u) => (show wq.cell? ⟨gb, ob + i, none⟩ = some u from by
              have hi : i < m := by
                rcases Nat.lt_or_ge i m with h | h
                · exact h
                · rw [List.getElem?_eq_none (by rw [tab_len]; exact h)] at hu; cases hu
              rw [tab_at g hi] at hu
              exact ((hq.cell (p := ⟨gb, ob + i, none⟩) (show gb < w.heap.size by omega)).trans (hcc' i hi)).trans hu))
            have HCp := Lib.hid (fun wq (hq : Below w.heap.size w wq) => copyNumbers_any B (.slice A n c) n f wq (H1.out.below (hq.mono hB)) (Nat.le_trans hB hq.size) hn (by omega))
            clear hcc'
            cases hok3 : pgOk s.data.toList a b (n + m) (catA n f g) with
            | false =>
              rw [hok3, if_neg (by simp)] at HC
              have HV3 := Lib.hid (fun wq A5 c5 (hq : wq.ownsRow (w.heap.size + 3) 2 1 (.slice A5 (n + m) c5) (n + m) (tab (n + m) (catA n f g))) => ValidPageI_c wq.heap.size s a b A5 (n + m) c5 (catA n f g) wq hs (Rd.of_own hq) (Nat.le_refl _) (by omega))
              rw [hok3] at HV3
              clear hok3
              go_enter Tryd.func17, Tryd.ntmps17
              go_wp2_with fail
              obtain ⟨w0, hw0⟩ : ∃ z, (((w.alloc (.cells #[.string s, .int .i64 a, .int .i64 b, .slice A n c] 26)).alloc (.cells #[.string s, .int .i64 a', .int .i64 b, .slice (some ⟨gb, ob, none⟩) m c'] 26)).alloc (.cells #[.string ⟨#[]⟩, .int .i64 0, .int .i64 0, .slice none 0 0] 26)) = z := ⟨_, rfl⟩
              have JN0 := Lib.hid (JnW.new w (.string s) (.int .i64 a) (.int .i64 b) (.slice A n c) (.string s) (.int .i64 a') (.int .i64 b) (.slice (some ⟨gb, ob, none⟩) m c'))
              rw [hw0] at JN0
              (try rw [hw0])
              clear hw0
              refine (HV1.out _ JN0.out.bel).mono ?_; rintro e w1 ⟨rfl, hb1⟩
              have JN1 := Lib.hid (JN0.out.below hb1)
              clear hb1
              obtain ⟨a0, a1, a2, a3, az⟩ := JN1.out.cA
              obtain ⟨b0, b1, b2, b3⟩ := JN1.out.cB
              go_wp2_with fail
              refine (HV2.out _ JN1.out.bel).mono ?_; rintro e w2 ⟨rfl, hb2⟩
              have JN2 := Lib.hid (JN1.out.below hb2)
              clear hb2
              clear a0 a1 a2 a3 az b0 b1 b2 b3
              obtain ⟨a0, a1, a2, a3, az⟩ := JN2.out.cA
              obtain ⟨b0, b1, b2, b3⟩ := JN2.out.cB
              go_upto_region 3 with (fail)
              refine wp_region_noPanic ?_
              refine wp_region_L [] (fun w' => w'.cell? ⟨w.heap.size, 0, none⟩ = some (.string s) ∧ w'.cell? ⟨w.heap.size, 1, none⟩ = some (.int .i64 a) ∧ w'.cell? ⟨w.heap.size, 2, none⟩ = some (.int .i64 b) ∧ w'.cell? ⟨w.heap.size, 3, none⟩ = some (.slice A n c) ∧ w'.cell? ⟨w.heap.size + 1, 0, none⟩ = some (.string s) ∧ w'.cell? ⟨w.heap.size + 1, 1, none⟩ = some (.int .i64 a') ∧ w'.cell? ⟨w.heap.size + 1, 2, none⟩ = some (.int .i64 b)) (by kernel_rfl) (⟨a0, a1, a2, a3, b0, b1, b2⟩) (fun hHeld => ?_)
              refine take_F (i := 0) (d := some 15) (v := ?_) (by kernel_rfl) (by kernel_rfl) rfl rfl (by kernel_rfl) (by kernel_rfl) (by kernel_rfl) (fun _ _ _ h => h) (Or.inl ⟨by rfl, ?_⟩) (by assumption) ?_
              rotate_left
              · (intro w hSw; (try dsimp only at hSw); go_simp; (try rw [if_neg (by omega)]); (try (with_reducible rfl)))
              simp only [Act.put, List.setIfInBounds_toArray, List.set_cons_zero, List.set_cons_succ]
              refine take_L [12,5,4,1] (i := 1) (d := some 16) (v := ?_) (by kernel_rfl) (by kernel_rfl) (by kernel_rfl) (by kernel_rfl) rfl rfl (by kernel_rfl) (by kernel_rfl) (by kernel_rfl) (fun _ _ _ h => h) (Or.inl ⟨by rfl, ?_⟩) (by assumption) ?_
              rotate_left
              · (intro w hSw; (try dsimp only at hSw); go_simp; (try rw [if_neg (by omega)]); (try (with_reducible rfl)))
              simp only [Act.put, List.setIfInBounds_toArray, List.set_cons_zero, List.set_cons_succ]
              refine take_F (i := 2) (d := some 17) (v := ?_) (by kernel_rfl) (by kernel_rfl) rfl rfl (by kernel_rfl) (by kernel_rfl) (by kernel_rfl) (fun _ _ _ h => h) (Or.inl ⟨by rfl, ?_⟩) (by assumption) ?_
              rotate_left
              · (intro w hSw; (try dsimp only at hSw); go_simp; (try rw [if_neg (by omega)]); (try (with_reducible rfl)))
              simp only [Act.put, List.setIfInBounds_toArray, List.set_cons_zero, List.set_cons_succ]
              refine take_L [12,5,4,3] (i := 3) (d := some 18) (v := ?_) (by kernel_rfl) (by kernel_rfl) (by kernel_rfl) (by kernel_rfl) rfl rfl (by kernel_rfl) (by kernel_rfl) (by kernel_rfl) (fun _ _ _ h => h) (Or.inl ⟨by rfl, ?_⟩) (by assumption) ?_
              rotate_left
              · (intro w hSw; (try dsimp only at hSw); go_simp; (try rw [if_neg (by omega)]); (try (with_reducible rfl)))
              simp only [Act.put, List.setIfInBounds_toArray, List.set_cons_zero, List.set_cons_succ]
              refine take_F (i := 4) (d := some 19) (v := (.bool false)) (by kernel_rfl) (by kernel_rfl) rfl rfl (by kernel_rfl) (by kernel_rfl) (by kernel_rfl) (fun _ _ _ h => h) (Or.inl ⟨by rfl, ?_⟩) (by assumption) ?_
              · (intro w hSw; (try dsimp only at hSw); go_simp <;> first | omega | (simp; done) | (simp; omega))
              simp only [Act.put, List.setIfInBounds_toArray, List.set_cons_zero, List.set_cons_succ]
              refine take_F (i := 5) (d := some 20) (v := ?_) (by kernel_rfl) (by kernel_rfl) rfl rfl (by kernel_rfl) (by kernel_rfl) (by kernel_rfl) (fun _ _ _ h => h) (Or.inl ⟨by rfl, ?_⟩) (by assumption) ?_
              rotate_left
              · (intro w hSw; (try dsimp only at hSw); go_simp; (try rw [if_neg (by omega)]); (try (with_reducible rfl)))
              simp only [Act.put, List.setIfInBounds_toArray, List.set_cons_zero, List.set_cons_succ]
              refine take_F (i := 6) (d := some 21) (v := ?_) (by kernel_rfl) (by kernel_rfl) rfl rfl (by kernel_rfl) (by kernel_rfl) (by kernel_rfl) (fun _ _ _ h => h) (Or.inl ⟨by rfl, ?_⟩) (by assumption) ?_
              rotate_left
              · (intro w hSw; (try dsimp only at hSw); go_simp; (try rw [if_neg (by omega)]); (try (with_reducible rfl)))
              simp only [Act.put, List.setIfInBounds_toArray, List.set_cons_zero, List.set_cons_succ]
              refine take_L [12,11,10,7] (i := 7) (d := some 22) (v := ?_) (by kernel_rfl) (by kernel_rfl) (by kernel_rfl) (by kernel_rfl) rfl rfl (by kernel_rfl) (by kernel_rfl) (by kernel_rfl) (fun _ _ _ h => h) (Or.inl ⟨by rfl, ?_⟩) (by assumption) ?_
              rotate_left
              · (intro w hSw; (try dsimp only at hSw); go_simp; (try rw [if_neg (by omega)]); (try (with_reducible rfl)))
              simp only [Act.put, List.setIfInBounds_toArray, List.set_cons_zero, List.set_cons_succ]
              refine take_F (i := 8) (d := some 23) (v := ?_) (by kernel_rfl) (by kernel_rfl) rfl rfl (by kernel_rfl) (by kernel_rfl) (by kernel_rfl) (fun _ _ _ h => h) (Or.inl ⟨by rfl, ?_⟩) (by assumption) ?_
              rotate_left
              · (intro w hSw; (try dsimp only at hSw); go_simp; (try rw [if_neg (by omega)]); (try (with_reducible rfl)))
              simp only [Act.put, List.setIfInBounds_toArray, List.set_cons_zero, List.set_cons_succ]
              refine take_L [12,11,10,9] (i := 9) (d := some 24) (v := ?_) (by kernel_rfl) (by kernel_rfl) (by kernel_rfl) (by kernel_rfl) rfl rfl (by kernel_rfl) (by kernel_rfl) (by kernel_rfl) (fun _ _ _ h => h) (Or.inl ⟨by rfl, ?_⟩) (by assumption) ?_
              rotate_left
              · (intro w hSw; (try dsimp only at hSw); go_simp; (try rw [if_neg (by omega)]); (try (with_reducible rfl)))
              simp only [Act.put, List.setIfInBounds_toArray, List.set_cons_zero, List.set_cons_succ]
              refine take_F (i := 10) (d := some 25) (v := (.bool false)) (by kernel_rfl) (by kernel_rfl) rfl rfl (by kernel_rfl) (by kernel_rfl) (by kernel_rfl) (fun _ _ _ h => h) (Or.inl ⟨by rfl, ?_⟩) (by assumption) ?_
              · (intro w hSw; (try dsimp only at hSw); go_simp <;> first | omega | (simp; done) | (simp; omega))
              simp only [Act.put, List.setIfInBounds_toArray, List.set_cons_zero, List.set_cons_succ]
              refine take_F (i := 11) (d := some 26) (v := ?_) (by kernel_rfl) (by kernel_rfl) rfl rfl (by kernel_rfl) (by kernel_rfl) (by kernel_rfl) (fun _ _ _ h => h) (Or.inl ⟨by rfl, ?_⟩) (by assumption) ?_
              rotate_left
              · (intro w hSw; (try dsimp only at hSw); go_simp; (try rw [if_neg (by omega)]); (try (with_reducible rfl)))
              simp only [Act.put, List.setIfInBounds_toArray, List.set_cons_zero, List.set_cons_succ]
              refine take_F (i := 12) (d := some 27) (v := ?_) (by kernel_rfl) (by kernel_rfl) rfl rfl (by kernel_rfl) (by kernel_rfl) (by kernel_rfl) (fun _ _ _ h => h) (Or.inl ⟨by rfl, ?_⟩) (by assumption) ?_
              rotate_left
              · (intro w hSw; (try dsimp only at hSw); go_simp; (try rw [if_neg (by omega)]); (try (with_reducible rfl)))
              simp only [Act.put, List.setIfInBounds_toArray, List.set_cons_zero, List.set_cons_succ]
              refine take_F (i := 13) (d := some 28) (v := ?_) (by kernel_rfl) (by kernel_rfl) rfl rfl (by kernel_rfl) (by kernel_rfl) (by kernel_rfl) (fun _ _ _ h => h) (Or.inl ⟨by rfl, ?_⟩) (by assumption) ?_
              rotate_left
              · (intro w hSw; (try dsimp only at hSw); go_simp; (try rw [if_neg (by omega)]); (try (with_reducible rfl)))
              simp only [Act.put, List.setIfInBounds_toArray, List.set_cons_zero, List.set_cons_succ]
              refine take_L [20,14] (i := 14) (d := some 29) (v := ?_) (by kernel_rfl) (by kernel_rfl) (by kernel_rfl) (by kernel_rfl) rfl rfl (by kernel_rfl) (by kernel_rfl) (by kernel_rfl) (fun _ _ _ h => h) (Or.inl ⟨by rfl, ?_⟩) (by assumption) ?_
              rotate_left
              · (intro w hSw; (try dsimp only at hSw); go_simp; (try rw [if_neg (by omega)]); (try (with_reducible rfl)))
              simp only [Act.put, List.setIfInBounds_toArray, List.set_cons_zero, List.set_cons_succ]
              refine take_L [20,19,15] (i := 15) (d := some 30) (v := ?_) (by kernel_rfl) (by kernel_rfl) (by kernel_rfl) (by kernel_rfl) rfl rfl (by kernel_rfl) (by kernel_rfl) (by kernel_rfl) (fun _ _ _ h => h) (Or.inl ⟨by rfl, ?_⟩) (by assumption) ?_
              rotate_left
              · (intro w hSw; (try dsimp only at hSw); go_simp; (try rw [if_neg (by omega)]); (try (with_reducible rfl)))
              simp only [Act.put, List.setIfInBounds_toArray, List.set_cons_zero, List.set_cons_succ]
              refine take_F (i := 16) (d := some 31) (v := ?_) (by kernel_rfl) (by kernel_rfl) rfl rfl (by kernel_rfl) (by kernel_rfl) (by kernel_rfl) (fun _ _ _ h => h) (Or.inl ⟨by rfl, ?_⟩) (by assumption) ?_
              rotate_left
              · (intro w hSw; (try dsimp only at hSw); go_simp; (try rw [if_neg (by omega)]); (try (with_reducible rfl)))
              simp only [Act.put, List.setIfInBounds_toArray, List.set_cons_zero, List.set_cons_succ]
              refine take_L [20,19,18,17] (i := 17) (d := some 32) (v := ?_) (by kernel_rfl) (by kernel_rfl) (by kernel_rfl) (by kernel_rfl) rfl rfl (by kernel_rfl) (by kernel_rfl) (by kernel_rfl) (fun _ _ _ h => h) (Or.inl ⟨by rfl, ?_⟩) (by assumption) ?_
              rotate_left
              · (intro w hSw; (try dsimp only at hSw); go_simp; (try rw [if_neg (by omega)]); (try (with_reducible rfl)))
              simp only [Act.put, List.setIfInBounds_toArray, List.set_cons_zero, List.set_cons_succ]
              refine take_F (i := 18) (d := some 33) (v := ?_) (by kernel_rfl) (by kernel_rfl) rfl rfl (by kernel_rfl) (by kernel_rfl) (by kernel_rfl) (fun _ _ _ h => h) (Or.inl ⟨by rfl, ?_⟩) (by assumption) ?_
              rotate_left
              · (intro w hSw; (try dsimp only at hSw); go_simp; (try rw [if_neg (by omega)]); (try (with_reducible rfl)))
              simp only [Act.put, List.setIfInBounds_toArray, List.set_cons_zero, List.set_cons_succ]
              refine call_L (i := 19) (d := (some 34)) rfl rfl (by kernel_rfl) (fun Kq hKq => ?_)
              go_simp
              go_at_call 45
              refine (HAr.out _).mono ?_; rintro e w3 ⟨rfl, hb3⟩
              have JN3 := Lib.hid (JN2.out.below (below_undrew hb3))
              clear hb3 a0 a1 a2 a3 az b0 b1 b2 b3
              obtain ⟨a0, a1, a2, a3, az⟩ := JN3.out.cA
              obtain ⟨b0, b1, b2, b3⟩ := JN3.out.cB
              (try go_wp2_with fail)
              refine hKq.out _ _ (⟨a0, a1, a2, a3, b0, b1, b2⟩) (fun hHeld => ?_)
              clear hKq Kq
              (try simp only [Act.put, List.setIfInBounds_toArray, List.set_cons_zero, List.set_cons_succ])
              refine take_F (i := 20) (d := some 35) (v := ?_) (by kernel_rfl) (by kernel_rfl) rfl rfl (by kernel_rfl) (by kernel_rfl) (by kernel_rfl) (fun _ _ _ h => h) (Or.inl ⟨by rfl, ?_⟩) (by assumption) ?_
              rotate_left
              · (intro w hSw; (try dsimp only at hSw); go_simp; (try rw [if_neg (by omega)]); (try (with_reducible rfl)))
              simp only [Act.put, List.setIfInBounds_toArray, List.set_cons_zero, List.set_cons_succ]
              refine take_F (i := 21) (d := some 36) (v := ?_) (by kernel_rfl) (by kernel_rfl) rfl rfl (by kernel_rfl) (by kernel_rfl) (by kernel_rfl) (fun _ _ _ h => h) (Or.inl ⟨by rfl, ?_⟩) (by assumption) ?_
              rotate_left
              · (intro w hSw; (try dsimp only at hSw); go_simp; (try rw [if_neg (by omega)]); (try (with_reducible rfl)))
              simp only [Act.put, List.setIfInBounds_toArray, List.set_cons_zero, List.set_cons_succ]
              refine done_L (by kernel_rfl) ?_ _
              refine NoPanic.normal ?_
              go_upto_region 5 with (fail)
              refine wp_region_noPanic ?_
              refine wp_region_L [7,6,5] (fun w' => w'.cell? ⟨w.heap.size, 3, none⟩ = some (.slice A n c) ∧ w'.cell? ⟨w.heap.size + 1, 3, none⟩ = some (.slice (some ⟨gb, ob, none⟩) m c')) (by kernel_rfl) (⟨a3, b3⟩) (fun hHeld => ?_)
              refine take_F (i := 0) (d := some 38) (v := ?_) (by kernel_rfl) (by kernel_rfl) rfl rfl (by kernel_rfl) (by kernel_rfl) (by kernel_rfl) (fun _ _ _ h => h) (Or.inl ⟨by rfl, ?_⟩) (by assumption) ?_
              rotate_left
              · (intro w hSw; (try dsimp only at hSw); go_simp; (try rw [if_neg (by omega)]); (try (with_reducible rfl)))
              simp only [Act.put, List.setIfInBounds_toArray, List.set_cons_zero, List.set_cons_succ]
              refine take_L [2,1] (i := 1) (d := some 39) (v := ?_) (by kernel_rfl) (by kernel_rfl) (by kernel_rfl) (by kernel_rfl) rfl rfl (by kernel_rfl) (by kernel_rfl) (by kernel_rfl) (fun _ _ _ h => h) (Or.inl ⟨by rfl, ?_⟩) (by assumption) ?_
              rotate_left
              · (intro w hSw; (try dsimp only at hSw); go_simp; (try rw [if_neg (by omega)]); (try (with_reducible rfl)))
              simp only [Act.put, List.setIfInBounds_toArray, List.set_cons_zero, List.set_cons_succ]
              refine take_F (i := 3) (d := some 41) (v := ?_) (by kernel_rfl) (by kernel_rfl) rfl rfl (by kernel_rfl) (by kernel_rfl) (by kernel_rfl) (fun _ _ _ h => h) (Or.inl ⟨by rfl, ?_⟩) (by assumption) ?_
              rotate_left
              · (intro w hSw; (try dsimp only at hSw); go_simp; (try rw [if_neg (by omega)]); (try (with_reducible rfl)))
              simp only [Act.put, List.setIfInBounds_toArray, List.set_cons_zero, List.set_cons_succ]
              refine take_L [4] (i := 4) (d := some 42) (v := ?_) (by kernel_rfl) (by kernel_rfl) (by kernel_rfl) (by kernel_rfl) rfl rfl (by kernel_rfl) (by kernel_rfl) (by kernel_rfl) (fun _ _ _ h => h) (Or.inl ⟨by rfl, ?_⟩) (by assumption) ?_
              rotate_left
              · (intro w hSw; (try dsimp only at hSw); go_simp; (try rw [if_neg (by omega)]); (try (with_reducible rfl)))
              simp only [Act.put, List.setIfInBounds_toArray, List.set_cons_zero, List.set_cons_succ]
              refine call_L (i := 2) (d := (some 40)) rfl rfl (by kernel_rfl) (fun Kq hKq => ?_)
              go_simp
              go_at_call 48
              refine (HCp.out _ JN3.out.bel.drew).mono ?_; rintro e w4 ⟨v4, rfl, ho4, hb4⟩
              have JN4 := Lib.hid (JN3.out.below (below_undrew hb4))
              obtain ⟨A4, c4, rfl⟩ := own_sl ho4
              have Ho4 := Lib.hid ho4
              have hz4 : w3.heap.size ≤ w4.heap.size := hb4.size
              have Hcc4 := Lib.hid (HCc.out w4 JN4.out.bel)
              clear ho4 hb4 a0 a1 a2 a3 az b0 b1 b2 b3
              obtain ⟨a0, a1, a2, a3, az⟩ := JN4.out.cA
              obtain ⟨b0, b1, b2, b3⟩ := JN4.out.cB
              (try go_wp2_with fail)
              refine hKq.out _ _ (⟨a3, b3⟩) (fun hHeld => ?_)
              clear hKq Kq
              (try simp only [Act.put, List.setIfInBounds_toArray, List.set_cons_zero, List.set_cons_succ])
              refine late_L (i := 5) (d := (some 43)) (by kernel_rfl) rfl rfl (by kernel_rfl) (fun Kq hKq => ?_)
              refine step_apr 24 2 _ 1 8 Tryd.underlying24 infoD rfl (by omega) _ _ (by rfl) (by rfl) w3.heap.size _ n _ (by rfl) Ho4.out gb ob m c' (tab m g) (by rfl) HLm.out Hcc4.out (tab_one m g) Hmx.out Hby.out hz4 ?_; intro v5 w5 ho5 hg5
              have JN5 := Lib.hid (JN4.out.below' (below_apd (Below.refl w3.heap.size w4) Ho4.out hg5 (Nat.le_refl _) hz4) JN3.out.sz)
              obtain ⟨A5, c5, rfl⟩ := own_sl ho5
              rw [← catA_tab] at ho5
              have Ho5 := Lib.hid (ownsRow_le (ownsRow_setCell_below ho5 (a := ⟨w.heap.size, 3, none⟩) (show w.heap.size < w3.heap.size by have := JN3.out.sz; omega) (.slice A5 (n + m) c5)) JN3.out.sz)
              have JN6 := Lib.hid (JN5.out.setA (.slice A5 (n + m) c5))
              clear ho5 hg5 a0 a1 a2 a3 az b0 b1 b2 b3
              obtain ⟨a0, a1, a2, a3, az⟩ := JN5.out.cA
              refine hKq.out _ _ ?_
              clear hKq Kq
              simp only [Act.put, List.setIfInBounds_toArray]
              refine late_L (i := 6) (d := (some 44)) (by kernel_rfl) rfl rfl (by kernel_rfl) (fun Kq hKq => ?_)
              go_simp
              refine hKq.out _ _ ?_
              clear hKq Kq
              refine late_L (i := 7) (d := none) (by kernel_rfl) rfl rfl (by kernel_rfl) (fun Kq hKq => ?_)
              go_simp
              refine hKq.out _ _ ?_
              clear hKq Kq
              refine done_L (by kernel_rfl) ?_ _
              refine NoPanic.normal ?_
              go_upto_region 6 with (fail)
              generalize w5.setCell ⟨w.heap.size, 3, none⟩ (.slice A5 (n + m) c5) = w6 at *
              clear a0 a1 a2 a3 az
              obtain ⟨a0, a1, a2, a3, az⟩ := JN6.out.cA
              go_wp2_with fail
              refine (HV3.out _ _ _ Ho5.out).mono ?_; rintro e w7 ⟨rfl, hb7⟩
              have JN7 := Lib.hid (JN6.out.below hb7)
              have Ho7 := Lib.hid (own_below Ho5.out hb7)
              clear hb7 a0 a1 a2 a3 az
              obtain ⟨⟨z0, z1, z2, z3⟩, y0, y1, y2, y3⟩ := JN7.out.cZ
              have HD := Lib.hid (JN7.out.fin (.string ⟨#[]⟩) (.int .i64 0) (.int .i64 0) (.slice none 0 0))
              go_wp2_with fail
              obtain ⟨⟨k0, k1, k2, k3⟩, hbz⟩ := HD.out
              refine bodyPost_ret (v := .tuple #[.agg #[.string ⟨#[]⟩, .int .i64 0, .int .i64 0, .slice none 0 0], .int .i64 5]) (by simp [results, Tryd.results17, go_sem, k0, k1, k2, k3]) rfl ?_
              first | exact RetJn.no HC.out (by decide) hbz | exact RetJn.no HC.out (by decide) hbz.drew | exact RetJn.no HC.out (by decide) (below_drewN hbz _)
            | true =>
              rw [hok3, if_pos rfl] at HC
              have HV3 := Lib.hid (fun wq A5 c5 (hq : wq.ownsRow (w.heap.size + 3) 2 1 (.slice A5 (n + m) c5) (n + m) (tab (n + m) (catA n f g))) => ValidPageI_c wq.heap.size s a b A5 (n + m) c5 (catA n f g) wq hs (Rd.of_own hq) (Nat.le_refl _) (by omega))
              rw [hok3] at HV3
              clear hok3
              go_enter Tryd.func17, Tryd.ntmps17
              go_wp2_with fail
              obtain ⟨w0, hw0⟩ : ∃ z, (((w.alloc (.cells #[.string s, .int .i64 a, .int .i64 b, .slice A n c] 26)).alloc (.cells #[.string s, .int .i64 a', .int .i64 b, .slice (some ⟨gb, ob, none⟩) m c'] 26)).alloc (.cells #[.string ⟨#[]⟩, .int .i64 0, .int .i64 0, .slice none 0 0] 26)) = z := ⟨_, rfl⟩
              have JN0 := Lib.hid (JnW.new w (.string s) (.int .i64 a) (.int .i64 b) (.slice A n c) (.string s) (.int .i64 a') (.int .i64 b) (.slice (some ⟨gb, ob, none⟩) m c'))
              rw [hw0] at JN0
              (try rw [hw0])
              clear hw0
              refine (HV1.out _ JN0.out.bel).mono ?_; rintro e w1 ⟨rfl, hb1⟩
              have JN1 := Lib.hid (JN0.out.below hb1)
              clear hb1
              obtain ⟨a0, a1, a2, a3, az⟩ := JN1.out.cA
              obtain ⟨b0, b1, b2, b3⟩ := JN1.out.cB
              go_wp2_with fail
              refine (HV2.out _ JN1.out.bel).mono ?_; rintro e w2 ⟨rfl, hb2⟩
              have JN2 := Lib.hid (JN1.out.below hb2)
              clear hb2
              clear a0 a1 a2 a3 az b0 b1 b2 b3
              obtain ⟨a0, a1, a2, a3, az⟩ := JN2.out.cA
              obtain ⟨b0, b1, b2, b3⟩ := JN2.out.cB
              go_upto_region 3 with (fail)
              refine wp_region_noPanic ?_
              refine wp_region_L [] (fun w' => w'.cell? ⟨w.heap.size, 0, none⟩ = some (.string s) ∧ w'.cell? ⟨w.heap.size, 1, none⟩ = some (.int .i64 a) ∧ w'.cell? ⟨w.heap.size, 2, none⟩ = some (.int .i64 b) ∧ w'.cell? ⟨w.heap.size, 3, none⟩ = some (.slice A n c) ∧ w'.cell? ⟨w.heap.size + 1, 0, none⟩ = some (.string s) ∧ w'.cell? ⟨w.heap.size + 1, 1, none⟩ = some (.int .i64 a') ∧ w'.cell? ⟨w.heap.size + 1, 2, none⟩ = some (.int .i64 b)) (by kernel_rfl) (⟨a0, a1, a2, a3, b0, b1, b2⟩) (fun hHeld => ?_)
              refine take_F (i := 0) (d := some 15) (v := ?_) (by kernel_rfl) (by kernel_rfl) rfl rfl (by kernel_rfl) (by kernel_rfl) (by kernel_rfl) (fun _ _ _ h => h) (Or.inl ⟨by rfl, ?_⟩) (by assumption) ?_
              rotate_left
              · (intro w hSw; (try dsimp only at hSw); go_simp; (try rw [if_neg (by omega)]); (try (with_reducible rfl)))
              simp only [Act.put, List.setIfInBounds_toArray, List.set_cons_zero, List.set_cons_succ]
              refine take_L [12,5,4,1] (i := 1) (d := some 16) (v := ?_) (by kernel_rfl) (by kernel_rfl) (by kernel_rfl) (by kernel_rfl) rfl rfl (by kernel_rfl) (by kernel_rfl) (by kernel_rfl) (fun _ _ _ h => h) (Or.inl ⟨by rfl, ?_⟩) (by assumption) ?_
              rotate_left
              · (intro w hSw; (try dsimp only at hSw); go_simp; (try rw [if_neg (by omega)]); (try (with_reducible rfl)))
              simp only [Act.put, List.setIfInBounds_toArray, List.set_cons_zero, List.set_cons_succ]
              refine take_F (i := 2) (d := some 17) (v := ?_) (by kernel_rfl) (by kernel_rfl) rfl rfl (by kernel_rfl) (by kernel_rfl) (by kernel_rfl) (fun _ _ _ h => h) (Or.inl ⟨by rfl, ?_⟩) (by assumption) ?_
              rotate_left
              · (intro w hSw; (try dsimp only at hSw); go_simp; (try rw [if_neg (by omega)]); (try (with_reducible rfl)))
              simp only [Act.put, List.setIfInBounds_toArray, List.set_cons_zero, List.set_cons_succ]
              refine take_L [12,5,4,3] (i := 3) (d := some 18) (v := ?_) (by kernel_rfl) (by kernel_rfl) (by kernel_rfl) (by kernel_rfl) rfl rfl (by kernel_rfl) (by kernel_rfl) (by kernel_rfl) (fun _ _ _ h => h) (Or.inl ⟨by rfl, ?_⟩) (by assumption) ?_
              rotate_left
              · (intro w hSw; (try dsimp only at hSw); go_simp; (try rw [if_neg (by omega)]); (try (with_reducible rfl)))
              simp only [Act.put, List.setIfInBounds_toArray, List.set_cons_zero, List.set_cons_succ]
              refine take_F (i := 4) (d := some 19) (v := (.bool false)) (by kernel_rfl) (by kernel_rfl) rfl rfl (by kernel_rfl) (by kernel_rfl) (by kernel_rfl) (fun _ _ _ h => h) (Or.inl ⟨by rfl, ?_⟩) (by assumption) ?_
              · (intro w hSw; (try dsimp only at hSw); go_simp <;> first | omega | (simp; done) | (simp; omega))
              simp only [Act.put, List.setIfInBounds_toArray, List.set_cons_zero, List.set_cons_succ]
              refine take_F (i := 5) (d := some 20) (v := ?_) (by kernel_rfl) (by kernel_rfl) rfl rfl (by kernel_rfl) (by kernel_rfl) (by kernel_rfl) (fun _ _ _ h => h) (Or.inl ⟨by rfl, ?_⟩) (by assumption) ?_
              rotate_left
              · (intro w hSw; (try dsimp only at hSw); go_simp; (try rw [if_neg (by omega)]); (try (with_reducible rfl)))
              simp only [Act.put, List.setIfInBounds_toArray, List.set_cons_zero, List.set_cons_succ]
              refine take_F (i := 6) (d := some 21) (v := ?_) (by kernel_rfl) (by kernel_rfl) rfl rfl (by kernel_rfl) (by kernel_rfl) (by kernel_rfl) (fun _ _ _ h => h) (Or.inl ⟨by rfl, ?_⟩) (by assumption) ?_
              rotate_left
              · (intro w hSw; (try dsimp only at hSw); go_simp; (try rw [if_neg (by omega)]); (try (with_reducible rfl)))
              simp only [Act.put, List.setIfInBounds_toArray, List.set_cons_zero, List.set_cons_succ]
              refine take_L [12,11,10,7] (i := 7) (d := some 22) (v := ?_) (by kernel_rfl) (by kernel_rfl) (by kernel_rfl) (by kernel_rfl) rfl rfl (by kernel_rfl) (by kernel_rfl) (by kernel_rfl) (fun _ _ _ h => h) (Or.inl ⟨by rfl, ?_⟩) (by assumption) ?_
              rotate_left
              · (intro w hSw; (try dsimp only at hSw); go_simp; (try rw [if_neg (by omega)]); (try (with_reducible rfl)))
              simp only [Act.put, List.setIfInBounds_toArray, List.set_cons_zero, List.set_cons_succ]
              refine take_F (i := 8) (d := some 23) (v := ?_) (by kernel_rfl) (by kernel_rfl) rfl rfl (by kernel_rfl) (by kernel_rfl) (by kernel_rfl) (fun _ _ _ h => h) (Or.inl ⟨by rfl, ?_⟩) (by assumption) ?_
              rotate_left
              · (intro w hSw; (try dsimp only at hSw); go_simp; (try rw [if_neg (by omega)]); (try (with_reducible rfl)))
              simp only [Act.put, List.setIfInBounds_toArray, List.set_cons_zero, List.set_cons_succ]
              refine take_L [12,11,10,9] (i := 9) (d := some 24) (v := ?_) (by kernel_rfl) (by kernel_rfl) (by kernel_rfl) (by kernel_rfl) rfl rfl (by kernel_rfl) (by kernel_rfl) (by kernel_rfl) (fun _ _ _ h => h) (Or.inl ⟨by rfl, ?_⟩) (by assumption) ?_
              rotate_left
              · (intro w hSw; (try dsimp only at hSw); go_simp; (try rw [if_neg (by omega)]); (try (with_reducible rfl)))
              simp only [Act.put, List.setIfInBounds_toArray, List.set_cons_zero, List.set_cons_succ]
              refine take_F (i := 10) (d := some 25) (v := (.bool false)) (by kernel_rfl) (by kernel_rfl) rfl rfl (by kernel_rfl) (by kernel_rfl) (by kernel_rfl) (fun _ _ _ h => h) (Or.inl ⟨by rfl, ?_⟩) (by assumption) ?_
              · (intro w hSw; (try dsimp only at hSw); go_simp <;> first | omega | (simp; done) | (simp; omega))
              simp only [Act.put, List.setIfInBounds_toArray, List.set_cons_zero, List.set_cons_succ]
              refine take_F (i := 11) (d := some 26) (v := ?_) (by kernel_rfl) (by kernel_rfl) rfl rfl (by kernel_rfl) (by kernel_rfl) (by kernel_rfl) (fun _ _ _ h => h) (Or.inl ⟨by rfl, ?_⟩) (by assumption) ?_
              rotate_left
              · (intro w hSw; (try dsimp only at hSw); go_simp; (try rw [if_neg (by omega)]); (try (with_reducible rfl)))
              simp only [Act.put, List.setIfInBounds_toArray, List.set_cons_zero, List.set_cons_succ]
              refine take_F (i := 12) (d := some 27) (v := ?_) (by kernel_rfl) (by kernel_rfl) rfl rfl (by kernel_rfl) (by kernel_rfl) (by kernel_rfl) (fun _ _ _ h => h) (Or.inl ⟨by rfl, ?_⟩) (by assumption) ?_
              rotate_left
              · (intro w hSw; (try dsimp only at hSw); go_simp; (try rw [if_neg (by omega)]); (try (with_reducible rfl)))
              simp only [Act.put, List.setIfInBounds_toArray, List.set_cons_zero, List.set_cons_succ]
              refine take_F (i := 13) (d := some 28) (v := ?_) (by kernel_rfl) (by kernel_rfl) rfl rfl (by kernel_rfl) (by kernel_rfl) (by kernel_rfl) (fun _ _ _ h => h) (Or.inl ⟨by rfl, ?_⟩) (by assumption) ?_
              rotate_left
              · (intro w hSw; (try dsimp only at hSw); go_simp; (try rw [if_neg (by omega)]); (try (with_reducible rfl)))
              simp only [Act.put, List.setIfInBounds_toArray, List.set_cons_zero, List.set_cons_succ]
              refine take_L [20,14] (i := 14) (d := some 29) (v := ?_) (by kernel_rfl) (by kernel_rfl) (by kernel_rfl) (by kernel_rfl) rfl rfl (by kernel_rfl) (by kernel_rfl) (by kernel_rfl) (fun _ _ _ h => h) (Or.inl ⟨by rfl, ?_⟩) (by assumption) ?_
              rotate_left
              · (intro w hSw; (try dsimp only at hSw); go_simp; (try rw [if_neg (by omega)]); (try (with_reducible rfl)))
              simp only [Act.put, List.setIfInBounds_toArray, List.set_cons_zero, List.set_cons_succ]
              refine take_L [20,19,15] (i := 15) (d := some 30) (v := ?_) (by kernel_rfl) (by kernel_rfl) (by kernel_rfl) (by kernel_rfl) rfl rfl (by kernel_rfl) (by kernel_rfl) (by kernel_rfl) (fun _ _ _ h => h) (Or.inl ⟨by rfl, ?_⟩) (by assumption) ?_
              rotate_left
              · (intro w hSw; (try dsimp only at hSw); go_simp; (try rw [if_neg (by omega)]); (try (with_reducible rfl)))
              simp only [Act.put, List.setIfInBounds_toArray, List.set_cons_zero, List.set_cons_succ]
              refine take_F (i := 16) (d := some 31) (v := ?_) (by kernel_rfl) (by kernel_rfl) rfl rfl (by kernel_rfl) (by kernel_rfl) (by kernel_rfl) (fun _ _ _ h => h) (Or.inl ⟨by rfl, ?_⟩) (by assumption) ?_
              rotate_left
              · (intro w hSw; (try dsimp only at hSw); go_simp; (try rw [if_neg (by omega)]); (try (with_reducible rfl)))
              simp only [Act.put, List.setIfInBounds_toArray, List.set_cons_zero, List.set_cons_succ]
              refine take_L [20,19,18,17] (i := 17) (d := some 32) (v := ?_) (by kernel_rfl) (by kernel_rfl) (by kernel_rfl) (by kernel_rfl) rfl rfl (by kernel_rfl) (by kernel_rfl) (by kernel_rfl) (fun _ _ _ h => h) (Or.inl ⟨by rfl, ?_⟩) (by assumption) ?_
              rotate_left
              · (intro w hSw; (try dsimp only at hSw); go_simp; (try rw [if_neg (by omega)]); (try (with_reducible rfl)))
              simp only [Act.put, List.setIfInBounds_toArray, List.set_cons_zero, List.set_cons_succ]
              refine take_F (i := 18) (d := some 33) (v := ?_) (by kernel_rfl) (by kernel_rfl) rfl rfl (by kernel_rfl) (by kernel_rfl) (by kernel_rfl) (fun _ _ _ h => h) (Or.inl ⟨by rfl, ?_⟩) (by assumption) ?_
              rotate_left
              · (intro w hSw; (try dsimp only at hSw); go_simp; (try rw [if_neg (by omega)]); (try (with_reducible rfl)))
              simp only [Act.put, List.setIfInBounds_toArray, List.set_cons_zero, List.set_cons_succ]
              refine call_L (i := 19) (d := (some 34)) rfl rfl (by kernel_rfl) (fun Kq hKq => ?_)
              go_simp
              go_at_call 45
              refine (HAr.out _).mono ?_; rintro e w3 ⟨rfl, hb3⟩
              have JN3 := Lib.hid (JN2.out.below (below_undrew hb3))
              clear hb3 a0 a1 a2 a3 az b0 b1 b2 b3
              obtain ⟨a0, a1, a2, a3, az⟩ := JN3.out.cA
              obtain ⟨b0, b1, b2, b3⟩ := JN3.out.cB
              (try go_wp2_with fail)
              refine hKq.out _ _ (⟨a0, a1, a2, a3, b0, b1, b2⟩) (fun hHeld => ?_)
              clear hKq Kq
              (try simp only [Act.put, List.setIfInBounds_toArray, List.set_cons_zero, List.set_cons_succ])
              refine take_F (i := 20) (d := some 35) (v := ?_) (by kernel_rfl) (by kernel_rfl) rfl rfl (by kernel_rfl) (by kernel_rfl) (by kernel_rfl) (fun _ _ _ h => h) (Or.inl ⟨by rfl, ?_⟩) (by assumption) ?_
              rotate_left
              · (intro w hSw; (try dsimp only at hSw); go_simp; (try rw [if_neg (by omega)]); (try (with_reducible rfl)))
              simp only [Act.put, List.setIfInBounds_toArray, List.set_cons_zero, List.set_cons_succ]
              refine take_F (i := 21) (d := some 36) (v := ?_) (by kernel_rfl) (by kernel_rfl) rfl rfl (by kernel_rfl) (by kernel_rfl) (by kernel_rfl) (fun _ _ _ h => h) (Or.inl ⟨by rfl, ?_⟩) (by assumption) ?_
              rotate_left
              · (intro w hSw; (try dsimp only at hSw); go_simp; (try rw [if_neg (by omega)]); (try (with_reducible rfl)))
              simp only [Act.put, List.setIfInBounds_toArray, List.set_cons_zero, List.set_cons_succ]
              refine done_L (by kernel_rfl) ?_ _
              refine NoPanic.normal ?_
              go_upto_region 5 with (fail)
              refine wp_region_noPanic ?_
              refine wp_region_L [7,6,5] (fun w' => w'.cell? ⟨w.heap.size, 3, none⟩ = some (.slice A n c) ∧ w'.cell? ⟨w.heap.size + 1, 3, none⟩ = some (.slice (some ⟨gb, ob, none⟩) m c')) (by kernel_rfl) (⟨a3, b3⟩) (fun hHeld => ?_)
              refine take_F (i := 0) (d := some 38) (v := ?_) (by kernel_rfl) (by kernel_rfl) rfl rfl (by kernel_rfl) (by kernel_rfl) (by kernel_rfl) (fun _ _ _ h => h) (Or.inl ⟨by rfl, ?_⟩) (by assumption) ?_
              rotate_left
              · (intro w hSw; (try dsimp only at hSw); go_simp; (try rw [if_neg (by omega)]); (try (with_reducible rfl)))
              simp only [Act.put, List.setIfInBounds_toArray, List.set_cons_zero, List.set_cons_succ]
              refine take_L [2,1] (i := 1) (d := some 39) (v := ?_) (by kernel_rfl) (by kernel_rfl) (by kernel_rfl) (by kernel_rfl) rfl rfl (by kernel_rfl) (by kernel_rfl) (by kernel_rfl) (fun _ _ _ h => h) (Or.inl ⟨by rfl, ?_⟩) (by assumption) ?_
              rotate_left
              · (intro w hSw; (try dsimp only at hSw); go_simp; (try rw [if_neg (by omega)]); (try (with_reducible rfl)))
              simp only [Act.put, List.setIfInBounds_toArray, List.set_cons_zero, List.set_cons_succ]
              refine take_F (i := 3) (d := some 41) (v := ?_) (by kernel_rfl) (by kernel_rfl) rfl rfl (by kernel_rfl) (by kernel_rfl) (by kernel_rfl) (fun _ _ _ h => h) (Or.inl ⟨by rfl, ?_⟩) (by assumption) ?_
              rotate_left
              · (intro w hSw; (try dsimp only at hSw); go_simp; (try rw [if_neg (by omega)]); (try (with_reducible rfl)))
              simp only [Act.put, List.setIfInBounds_toArray, List.set_cons_zero, List.set_cons_succ]
              refine take_L [4] (i := 4) (d := some 42) (v := ?_) (by kernel_rfl) (by kernel_rfl) (by kernel_rfl) (by kernel_rfl) rfl rfl (by kernel_rfl) (by kernel_rfl) (by kernel_rfl) (fun _ _ _ h => h) (Or.inl ⟨by rfl, ?_⟩) (by assumption) ?_
              rotate_left
              · (intro w hSw; (try dsimp only at hSw); go_simp; (try rw [if_neg (by omega)]); (try (with_reducible rfl)))
              simp only [Act.put, List.setIfInBounds_toArray, List.set_cons_zero, List.set_cons_succ]
              refine call_L (i := 2) (d := (some 40)) rfl rfl (by kernel_rfl) (fun Kq hKq => ?_)
              go_simp
              go_at_call 48
              refine (HCp.out _ JN3.out.bel.drew).mono ?_; rintro e w4 ⟨v4, rfl, ho4, hb4⟩
              have JN4 := Lib.hid (JN3.out.below (below_undrew hb4))
              obtain ⟨A4, c4, rfl⟩ := own_sl ho4
              have Ho4 := Lib.hid ho4
              have hz4 : w3.heap.size ≤ w4.heap.size := hb4.size
              have Hcc4 := Lib.hid (HCc.out w4 JN4.out.bel)
              clear ho4 hb4 a0 a1 a2 a3 az b0 b1 b2 b3
              obtain ⟨a0, a1, a2, a3, az⟩ := JN4.out.cA
              obtain ⟨b0, b1, b2, b3⟩ := JN4.out.cB
              (try go_wp2_with fail)
              refine hKq.out _ _ (⟨a3, b3⟩) (fun hHeld => ?_)
              clear hKq Kq
              (try simp only [Act.put, List.setIfInBounds_toArray, List.set_cons_zero, List.set_cons_succ])
              refine late_L (i := 5) (d := (some 43)) (by kernel_rfl) rfl rfl (by kernel_rfl) (fun Kq hKq => ?_)
              refine step_apr 24 2 _ 1 8 Tryd.underlying24 infoD rfl (by omega) _ _ (by rfl) (by rfl) w3.heap.size _ n _ (by rfl) Ho4.out gb ob m c' (tab m g) (by rfl) HLm.out Hcc4.out (tab_one m g) Hmx.out Hby.out hz4 ?_; intro v5 w5 ho5 hg5
              have JN5 := Lib.hid (JN4.out.below' (below_apd (Below.refl w3.heap.size w4) Ho4.out hg5 (Nat.le_refl _) hz4) JN3.out.sz)
              obtain ⟨A5, c5, rfl⟩ := own_sl ho5
              rw [← catA_tab] at ho5
              have Ho5 := Lib.hid (ownsRow_le (ownsRow_setCell_below ho5 (a := ⟨w.heap.size, 3, none⟩) (show w.heap.size < w3.heap.size by have := JN3.out.sz; omega) (.slice A5 (n + m) c5)) JN3.out.sz)
              have JN6 := Lib.hid (JN5.out.setA (.slice A5 (n + m) c5))
              clear ho5 hg5 a0 a1 a2 a3 az b0 b1 b2 b3
              obtain ⟨a0, a1, a2, a3, az⟩ := JN5.out.cA
              refine hKq.out _ _ ?_
              clear hKq Kq
              simp only [Act.put, List.setIfInBounds_toArray]
              refine late_L (i := 6) (d := (some 44)) (by kernel_rfl) rfl rfl (by kernel_rfl) (fun Kq hKq => ?_)
              go_simp
              refine hKq.out _ _ ?_
              clear hKq Kq
              refine late_L (i := 7) (d := none) (by kernel_rfl) rfl rfl (by kernel_rfl) (fun Kq hKq => ?_)
              go_simp
              refine hKq.out _ _ ?_
              clear hKq Kq
              refine done_L (by kernel_rfl) ?_ _
              refine NoPanic.normal ?_
              go_upto_region 6 with (fail)
              generalize w5.setCell ⟨w.heap.size, 3, none⟩ (.slice A5 (n + m) c5) = w6 at *
              clear a0 a1 a2 a3 az
              obtain ⟨a0, a1, a2, a3, az⟩ := JN6.out.cA
              go_wp2_with fail
              refine (HV3.out _ _ _ Ho5.out).mono ?_; rintro e w7 ⟨rfl, hb7⟩
              have JN7 := Lib.hid (JN6.out.below hb7)
              have Ho7 := Lib.hid (own_below Ho5.out hb7)
              clear hb7 a0 a1 a2 a3 az
              obtain ⟨a0, a1, a2, a3, az⟩ := JN7.out.cA
              obtain ⟨⟨z0, z1, z2, z3⟩, y0, y1, y2, y3⟩ := JN7.out.cZ
              have HD := Lib.hid (JN7.out.fin (.string s) (.int .i64 a) (.int .i64 b) (.slice A5 (n + m) c5))
              have HOw := Lib.hid (ownsRow_le (set4_own Ho7.out (show w.heap.size + 2 < w.heap.size + 3 by omega) (.string s) (.int .i64 a) (.int .i64 b) (.slice A5 (n + m) c5)) (show w.heap.size ≤ w.heap.size + 3 by omega))
              go_wp2_with fail
              obtain ⟨⟨k0, k1, k2, k3⟩, hbz⟩ := HD.out
              refine bodyPost_ret (v := .tuple #[.agg #[.string s, .int .i64 a, .int .i64 b, .slice A5 (n + m) c5], .int .i64 0]) (by simp [results, Tryd.results17, go_sem, k0, k1, k2, k3]) rfl ?_
              exact RetJn.yes (h := ⟨s, a, b, n + m⟩) HC.out HOw.out hbz
          · have HC := Lib.hid (jp_st (s' := s) (b' := b) HK1.out HK2.out (fun h => haa h.2.2))
            obtain ⟨P, hPe⟩ : ∃ P, (n : Int) * b = P := ⟨_, rfl⟩
            rw [hPe] at HAr hP0 hP1 haa
            have hwp : IntKind.i64.wrap ((n : Int) * b) = P := by rw [hPe]; exact IntWalk.i64_in _ (by omega)
            have hwa : IntKind.i64.wrap (a + P) = a + P := IntWalk.i64_in _ (by omega)
            have haa' : (a' == a + P) = false := beq_eq_false_iff_ne.2 haa
            clear hPe
            go_enter Tryd.func17, Tryd.ntmps17
            go_wp2_with fail
            obtain ⟨w0, hw0⟩ : ∃ z, (((w.alloc (.cells #[.string s, .int .i64 a, .int .i64 b, .slice A n c] 26)).alloc (.cells #[.string s, .int .i64 a', .int .i64 b, .slice A' m c'] 26)).alloc (.cells #[.string ⟨#[]⟩, .int .i64 0, .int .i64 0, .slice none 0 0] 26)) = z := ⟨_, rfl⟩
            have JN0 := Lib.hid (JnW.new w (.string s) (.int .i64 a) (.int .i64 b) (.slice A n c) (.string s) (.int .i64 a') (.int .i64 b) (.slice A' m c'))
            rw [hw0] at JN0
            (try rw [hw0])
            clear hw0
            refine (HV1.out _ JN0.out.bel).mono ?_; rintro e w1 ⟨rfl, hb1⟩
            have JN1 := Lib.hid (JN0.out.below hb1)
            clear hb1
            obtain ⟨a0, a1, a2, a3, az⟩ := JN1.out.cA
            obtain ⟨b0, b1, b2, b3⟩ := JN1.out.cB
            go_wp2_with fail
            refine (HV2.out _ JN1.out.bel).mono ?_; rintro e w2 ⟨rfl, hb2⟩
            have JN2 := Lib.hid (JN1.out.below hb2)
            clear hb2
            clear a0 a1 a2 a3 az b0 b1 b2 b3
            obtain ⟨a0, a1, a2, a3, az⟩ := JN2.out.cA
            obtain ⟨b0, b1, b2, b3⟩ := JN2.out.cB
            go_upto_region 3 with (fail)
            refine wp_region_noPanic ?_
            refine wp_region_L [] (fun w' => w'.cell? ⟨w.heap.size, 0, none⟩ = some (.string s) ∧ w'.cell? ⟨w.heap.size, 1, none⟩ = some (.int .i64 a) ∧ w'.cell? ⟨w.heap.size, 2, none⟩ = some (.int .i64 b) ∧ w'.cell? ⟨w.heap.size, 3, none⟩ = some (.slice A n c) ∧ w'.cell? ⟨w.heap.size + 1, 0, none⟩ = some (.string s) ∧ w'.cell? ⟨w.heap.size + 1, 1, none⟩ = some (.int .i64 a') ∧ w'.cell? ⟨w.heap.size + 1, 2, none⟩ = some (.int .i64 b)) (by kernel_rfl) (⟨a0, a1, a2, a3, b0, b1, b2⟩) (fun hHeld => ?_)
            refine take_F (i := 0) (d := some 15) (v := ?_) (by kernel_rfl) (by kernel_rfl) rfl rfl (by kernel_rfl) (by kernel_rfl) (by kernel_rfl) (fun _ _ _ h => h) (Or.inl ⟨by rfl, ?_⟩) (by assumption) ?_
            rotate_left
            · (intro w hSw; (try dsimp only at hSw); go_simp; (try rw [if_neg (by omega)]); (try (with_reducible rfl)))
            simp only [Act.put, List.setIfInBounds_toArray, List.set_cons_zero, List.set_cons_succ]
            refine take_L [12,5,4,1] (i := 1) (d := some 16) (v := ?_) (by kernel_rfl) (by kernel_rfl) (by kernel_rfl) (by kernel_rfl) rfl rfl (by kernel_rfl) (by kernel_rfl) (by kernel_rfl) (fun _ _ _ h => h) (Or.inl ⟨by rfl, ?_⟩) (by assumption) ?_
            rotate_left
            · (intro w hSw; (try dsimp only at hSw); go_simp; (try rw [if_neg (by omega)]); (try (with_reducible rfl)))
            simp only [Act.put, List.setIfInBounds_toArray, List.set_cons_zero, List.set_cons_succ]
            refine take_F (i := 2) (d := some 17) (v := ?_) (by kernel_rfl) (by kernel_rfl) rfl rfl (by kernel_rfl) (by kernel_rfl) (by kernel_rfl) (fun _ _ _ h => h) (Or.inl ⟨by rfl, ?_⟩) (by assumption) ?_
            rotate_left
            · (intro w hSw; (try dsimp only at hSw); go_simp; (try rw [if_neg (by omega)]); (try (with_reducible rfl)))
            simp only [Act.put, List.setIfInBounds_toArray, List.set_cons_zero, List.set_cons_succ]
            refine take_L [12,5,4,3] (i := 3) (d := some 18) (v := ?_) (by kernel_rfl) (by kernel_rfl) (by kernel_rfl) (by kernel_rfl) rfl rfl (by kernel_rfl) (by kernel_rfl) (by kernel_rfl) (fun _ _ _ h => h) (Or.inl ⟨by rfl, ?_⟩) (by assumption) ?_
            rotate_left
            · (intro w hSw; (try dsimp only at hSw); go_simp; (try rw [if_neg (by omega)]); (try (with_reducible rfl)))
            simp only [Act.put, List.setIfInBounds_toArray, List.set_cons_zero, List.set_cons_succ]
            refine take_F (i := 4) (d := some 19) (v := (.bool false)) (by kernel_rfl) (by kernel_rfl) rfl rfl (by kernel_rfl) (by kernel_rfl) (by kernel_rfl) (fun _ _ _ h => h) (Or.inl ⟨by rfl, ?_⟩) (by assumption) ?_
            · (intro w hSw; (try dsimp only at hSw); go_simp <;> first | omega | (simp; done) | (simp; omega))
            simp only [Act.put, List.setIfInBounds_toArray, List.set_cons_zero, List.set_cons_succ]
            refine take_F (i := 5) (d := some 20) (v := ?_) (by kernel_rfl) (by kernel_rfl) rfl rfl (by kernel_rfl) (by kernel_rfl) (by kernel_rfl) (fun _ _ _ h => h) (Or.inl ⟨by rfl, ?_⟩) (by assumption) ?_
            rotate_left
            · (intro w hSw; (try dsimp only at hSw); go_simp; (try rw [if_neg (by omega)]); (try (with_reducible rfl)))
            simp only [Act.put, List.setIfInBounds_toArray, List.set_cons_zero, List.set_cons_succ]
            refine take_F (i := 6) (d := some 21) (v := ?_) (by kernel_rfl) (by kernel_rfl) rfl rfl (by kernel_rfl) (by kernel_rfl) (by kernel_rfl) (fun _ _ _ h => h) (Or.inl ⟨by rfl, ?_⟩) (by assumption) ?_
            rotate_left
            · (intro w hSw; (try dsimp only at hSw); go_simp; (try rw [if_neg (by omega)]); (try (with_reducible rfl)))
            simp only [Act.put, List.setIfInBounds_toArray, List.set_cons_zero, List.set_cons_succ]
            refine take_L [12,11,10,7] (i := 7) (d := some 22) (v := ?_) (by kernel_rfl) (by kernel_rfl) (by kernel_rfl) (by kernel_rfl) rfl rfl (by kernel_rfl) (by kernel_rfl) (by kernel_rfl) (fun _ _ _ h => h) (Or.inl ⟨by rfl, ?_⟩) (by assumption) ?_
            rotate_left
            · (intro w hSw; (try dsimp only at hSw); go_simp; (try rw [if_neg (by omega)]); (try (with_reducible rfl)))
            simp only [Act.put, List.setIfInBounds_toArray, List.set_cons_zero, List.set_cons_succ]
            refine take_F (i := 8) (d := some 23) (v := ?_) (by kernel_rfl) (by kernel_rfl) rfl rfl (by kernel_rfl) (by kernel_rfl) (by kernel_rfl) (fun _ _ _ h => h) (Or.inl ⟨by rfl, ?_⟩) (by assumption) ?_
            rotate_left
            · (intro w hSw; (try dsimp only at hSw); go_simp; (try rw [if_neg (by omega)]); (try (with_reducible rfl)))
            simp only [Act.put, List.setIfInBounds_toArray, List.set_cons_zero, List.set_cons_succ]
            refine take_L [12,11,10,9] (i := 9) (d := some 24) (v := ?_) (by kernel_rfl) (by kernel_rfl) (by kernel_rfl) (by kernel_rfl) rfl rfl (by kernel_rfl) (by kernel_rfl) (by kernel_rfl) (fun _ _ _ h => h) (Or.inl ⟨by rfl, ?_⟩) (by assumption) ?_
            rotate_left
            · (intro w hSw; (try dsimp only at hSw); go_simp; (try rw [if_neg (by omega)]); (try (with_reducible rfl)))
            simp only [Act.put, List.setIfInBounds_toArray, List.set_cons_zero, List.set_cons_succ]
            refine take_F (i := 10) (d := some 25) (v := (.bool false)) (by kernel_rfl) (by kernel_rfl) rfl rfl (by kernel_rfl) (by kernel_rfl) (by kernel_rfl) (fun _ _ _ h => h) (Or.inl ⟨by rfl, ?_⟩) (by assumption) ?_
            · (intro w hSw; (try dsimp only at hSw); go_simp <;> first | omega | (simp; done) | (simp; omega))
            simp only [Act.put, List.setIfInBounds_toArray, List.set_cons_zero, List.set_cons_succ]
            refine take_F (i := 11) (d := some 26) (v := ?_) (by kernel_rfl) (by kernel_rfl) rfl rfl (by kernel_rfl) (by kernel_rfl) (by kernel_rfl) (fun _ _ _ h => h) (Or.inl ⟨by rfl, ?_⟩) (by assumption) ?_
            rotate_left
            · (intro w hSw; (try dsimp only at hSw); go_simp; (try rw [if_neg (by omega)]); (try (with_reducible rfl)))
            simp only [Act.put, List.setIfInBounds_toArray, List.set_cons_zero, List.set_cons_succ]
            refine take_F (i := 12) (d := some 27) (v := ?_) (by kernel_rfl) (by kernel_rfl) rfl rfl (by kernel_rfl) (by kernel_rfl) (by kernel_rfl) (fun _ _ _ h => h) (Or.inl ⟨by rfl, ?_⟩) (by assumption) ?_
            rotate_left
            · (intro w hSw; (try dsimp only at hSw); go_simp; (try rw [if_neg (by omega)]); (try (with_reducible rfl)))
            simp only [Act.put, List.setIfInBounds_toArray, List.set_cons_zero, List.set_cons_succ]
            refine take_F (i := 13) (d := some 28) (v := ?_) (by kernel_rfl) (by kernel_rfl) rfl rfl (by kernel_rfl) (by kernel_rfl) (by kernel_rfl) (fun _ _ _ h => h) (Or.inl ⟨by rfl, ?_⟩) (by assumption) ?_
            rotate_left
            · (intro w hSw; (try dsimp only at hSw); go_simp; (try rw [if_neg (by omega)]); (try (with_reducible rfl)))
            simp only [Act.put, List.setIfInBounds_toArray, List.set_cons_zero, List.set_cons_succ]
            refine take_L [20,14] (i := 14) (d := some 29) (v := ?_) (by kernel_rfl) (by kernel_rfl) (by kernel_rfl) (by kernel_rfl) rfl rfl (by kernel_rfl) (by kernel_rfl) (by kernel_rfl) (fun _ _ _ h => h) (Or.inl ⟨by rfl, ?_⟩) (by assumption) ?_
            rotate_left
            · (intro w hSw; (try dsimp only at hSw); go_simp; (try rw [if_neg (by omega)]); (try (with_reducible rfl)))
            simp only [Act.put, List.setIfInBounds_toArray, List.set_cons_zero, List.set_cons_succ]
            refine take_L [20,19,15] (i := 15) (d := some 30) (v := ?_) (by kernel_rfl) (by kernel_rfl) (by kernel_rfl) (by kernel_rfl) rfl rfl (by kernel_rfl) (by kernel_rfl) (by kernel_rfl) (fun _ _ _ h => h) (Or.inl ⟨by rfl, ?_⟩) (by assumption) ?_
            rotate_left
            · (intro w hSw; (try dsimp only at hSw); go_simp; (try rw [if_neg (by omega)]); (try (with_reducible rfl)))
            simp only [Act.put, List.setIfInBounds_toArray, List.set_cons_zero, List.set_cons_succ]
            refine take_F (i := 16) (d := some 31) (v := ?_) (by kernel_rfl) (by kernel_rfl) rfl rfl (by kernel_rfl) (by kernel_rfl) (by kernel_rfl) (fun _ _ _ h => h) (Or.inl ⟨by rfl, ?_⟩) (by assumption) ?_
            rotate_left
            · (intro w hSw; (try dsimp only at hSw); go_simp; (try rw [if_neg (by omega)]); (try (with_reducible rfl)))
            simp only [Act.put, List.setIfInBounds_toArray, List.set_cons_zero, List.set_cons_succ]
            refine take_L [20,19,18,17] (i := 17) (d := some 32) (v := ?_) (by kernel_rfl) (by kernel_rfl) (by kernel_rfl) (by kernel_rfl) rfl rfl (by kernel_rfl) (by kernel_rfl) (by kernel_rfl) (fun _ _ _ h => h) (Or.inl ⟨by rfl, ?_⟩) (by assumption) ?_
            rotate_left
            · (intro w hSw; (try dsimp only at hSw); go_simp; (try rw [if_neg (by omega)]); (try (with_reducible rfl)))
            simp only [Act.put, List.setIfInBounds_toArray, List.set_cons_zero, List.set_cons_succ]
            refine take_F (i := 18) (d := some 33) (v := ?_) (by kernel_rfl) (by kernel_rfl) rfl rfl (by kernel_rfl) (by kernel_rfl) (by kernel_rfl) (fun _ _ _ h => h) (Or.inl ⟨by rfl, ?_⟩) (by assumption) ?_
            rotate_left
            · (intro w hSw; (try dsimp only at hSw); go_simp; (try rw [if_neg (by omega)]); (try (with_reducible rfl)))
            simp only [Act.put, List.setIfInBounds_toArray, List.set_cons_zero, List.set_cons_succ]
            refine call_L (i := 19) (d := (some 34)) rfl rfl (by kernel_rfl) (fun Kq hKq => ?_)
            go_simp
            go_at_call 45
            refine (HAr.out _).mono ?_; rintro e w3 ⟨rfl, hb3⟩
            have JN3 := Lib.hid (JN2.out.below (below_undrew hb3))
            clear hb3 a0 a1 a2 a3 az b0 b1 b2 b3
            obtain ⟨a0, a1, a2, a3, az⟩ := JN3.out.cA
            obtain ⟨b0, b1, b2, b3⟩ := JN3.out.cB
            (try go_wp2_with fail)
            refine hKq.out _ _ (⟨a0, a1, a2, a3, b0, b1, b2⟩) (fun hHeld => ?_)
            clear hKq Kq
            (try simp only [Act.put, List.setIfInBounds_toArray, List.set_cons_zero, List.set_cons_succ])
            refine take_F (i := 20) (d := some 35) (v := ?_) (by kernel_rfl) (by kernel_rfl) rfl rfl (by kernel_rfl) (by kernel_rfl) (by kernel_rfl) (fun _ _ _ h => h) (Or.inl ⟨by rfl, ?_⟩) (by assumption) ?_
            rotate_left
            · (intro w hSw; (try dsimp only at hSw); go_simp; (try rw [if_neg (by omega)]); (try (with_reducible rfl)))
            simp only [Act.put, List.setIfInBounds_toArray, List.set_cons_zero, List.set_cons_succ]
            refine take_F (i := 21) (d := some 36) (v := ?_) (by kernel_rfl) (by kernel_rfl) rfl rfl (by kernel_rfl) (by kernel_rfl) (by kernel_rfl) (fun _ _ _ h => h) (Or.inl ⟨by rfl, ?_⟩) (by assumption) ?_
            rotate_left
            · (intro w hSw; (try dsimp only at hSw); go_simp; (try rw [if_neg (by omega)]); (try (with_reducible rfl)))
            simp only [Act.put, List.setIfInBounds_toArray, List.set_cons_zero, List.set_cons_succ]
            refine done_L (by kernel_rfl) ?_ _
            refine NoPanic.normal ?_
            clear a0 a1 a2 a3 az b0 b1 b2 b3
            obtain ⟨⟨z0, z1, z2, z3⟩, y0, y1, y2, y3⟩ := JN3.out.cZ
            have HD := Lib.hid (JN3.out.fin (.string ⟨#[]⟩) (.int .i64 0) (.int .i64 0) (.slice none 0 0))
            go_wp2_with fail
            obtain ⟨⟨k0, k1, k2, k3⟩, hbz⟩ := HD.out
            refine bodyPost_ret (v := .tuple #[.agg #[.string ⟨#[]⟩, .int .i64 0, .int .i64 0, .slice none 0 0], .int .i64 6]) (by simp [results, Tryd.results17, go_sem, k0, k1, k2, k3]) rfl ?_
            first | exact RetJn.no HC.out (by decide) hbz | exact RetJn.no HC.out (by decide) hbz.drew | exact RetJn.no HC.out (by decide) (below_drewN hbz _)
        · have HC := Lib.hid (jp_st (s' := s) HK1.out HK2.out (fun h => hbb h.2.1))
          have hbb' : (b == b') = false := beq_eq_false_iff_ne.2 hbb
          go_enter Tryd.func17, Tryd.ntmps17
          go_wp2_with fail
          obtain ⟨w0, hw0⟩ : ∃ z, (((w.alloc (.cells #[.string s, .int .i64 a, .int .i64 b, .slice A n c] 26)).alloc (.cells #[.string s, .int .i64 a', .int .i64 b', .slice A' m c'] 26)).alloc (.cells #[.string ⟨#[]⟩, .int .i64 0, .int .i64 0, .slice none 0 0] 26)) = z := ⟨_, rfl⟩
          have JN0 := Lib.hid (JnW.new w (.string s) (.int .i64 a) (.int .i64 b) (.slice A n c) (.string s) (.int .i64 a') (.int .i64 b') (.slice A' m c'))
          rw [hw0] at JN0
          (try rw [hw0])
          clear hw0
          refine (HV1.out _ JN0.out.bel).mono ?_; rintro e w1 ⟨rfl, hb1⟩
          have JN1 := Lib.hid (JN0.out.below hb1)
          clear hb1
          obtain ⟨a0, a1, a2, a3, az⟩ := JN1.out.cA
          obtain ⟨b0, b1, b2, b3⟩ := JN1.out.cB
          go_wp2_with fail
          refine (HV2.out _ JN1.out.bel).mono ?_; rintro e w2 ⟨rfl, hb2⟩
          have JN2 := Lib.hid (JN1.out.below hb2)
          clear hb2
          clear a0 a1 a2 a3 az b0 b1 b2 b3
          obtain ⟨a0, a1, a2, a3, az⟩ := JN2.out.cA
          obtain ⟨b0, b1, b2, b3⟩ := JN2.out.cB
          go_upto_region 3 with (fail)
          refine wp_region_noPanic ?_
          refine wp_region_L [] (fun w' => w'.cell? ⟨w.heap.size, 0, none⟩ = some (.string s) ∧ w'.cell? ⟨w.heap.size, 1, none⟩ = some (.int .i64 a) ∧ w'.cell? ⟨w.heap.size, 2, none⟩ = some (.int .i64 b) ∧ w'.cell? ⟨w.heap.size, 3, none⟩ = some (.slice A n c) ∧ w'.cell? ⟨w.heap.size + 1, 0, none⟩ = some (.string s) ∧ w'.cell? ⟨w.heap.size + 1, 1, none⟩ = some (.int .i64 a') ∧ w'.cell? ⟨w.heap.size + 1, 2, none⟩ = some (.int .i64 b')) (by kernel_rfl) (⟨a0, a1, a2, a3, b0, b1, b2⟩) (fun hHeld => ?_)
          refine take_F (i := 0) (d := some 15) (v := ?_) (by kernel_rfl) (by kernel_rfl) rfl rfl (by kernel_rfl) (by kernel_rfl) (by kernel_rfl) (fun _ _ _ h => h) (Or.inl ⟨by rfl, ?_⟩) (by assumption) ?_
          rotate_left
          · (intro w hSw; (try dsimp only at hSw); go_simp; (try rw [if_neg (by omega)]); (try (with_reducible rfl)))
          simp only [Act.put, List.setIfInBounds_toArray, List.set_cons_zero, List.set_cons_succ]
          refine take_L [12,5,4,1] (i := 1) (d := some 16) (v := ?_) (by kernel_rfl) (by kernel_rfl) (by kernel_rfl) (by kernel_rfl) rfl rfl (by kernel_rfl) (by kernel_rfl) (by kernel_rfl) (fun _ _ _ h => h) (Or.inl ⟨by rfl, ?_⟩) (by assumption) ?_
          rotate_left
          · (intro w hSw; (try dsimp only at hSw); go_simp; (try rw [if_neg (by omega)]); (try (with_reducible rfl)))
          simp only [Act.put, List.setIfInBounds_toArray, List.set_cons_zero, List.set_cons_succ]
          refine take_F (i := 2) (d := some 17) (v := ?_) (by kernel_rfl) (by kernel_rfl) rfl rfl (by kernel_rfl) (by kernel_rfl) (by kernel_rfl) (fun _ _ _ h => h) (Or.inl ⟨by rfl, ?_⟩) (by assumption) ?_
          rotate_left
          · (intro w hSw; (try dsimp only at hSw); go_simp; (try rw [if_neg (by omega)]); (try (with_reducible rfl)))
          simp only [Act.put, List.setIfInBounds_toArray, List.set_cons_zero, List.set_cons_succ]
          refine take_L [12,5,4,3] (i := 3) (d := some 18) (v := ?_) (by kernel_rfl) (by kernel_rfl) (by kernel_rfl) (by kernel_rfl) rfl rfl (by kernel_rfl) (by kernel_rfl) (by kernel_rfl) (fun _ _ _ h => h) (Or.inl ⟨by rfl, ?_⟩) (by assumption) ?_
          rotate_left
          · (intro w hSw; (try dsimp only at hSw); go_simp; (try rw [if_neg (by omega)]); (try (with_reducible rfl)))
          simp only [Act.put, List.setIfInBounds_toArray, List.set_cons_zero, List.set_cons_succ]
          refine take_F (i := 4) (d := some 19) (v := (.bool false)) (by kernel_rfl) (by kernel_rfl) rfl rfl (by kernel_rfl) (by kernel_rfl) (by kernel_rfl) (fun _ _ _ h => h) (Or.inl ⟨by rfl, ?_⟩) (by assumption) ?_
          · (intro w hSw; (try dsimp only at hSw); go_simp <;> first | omega | (simp; done) | (simp; omega))
          simp only [Act.put, List.setIfInBounds_toArray, List.set_cons_zero, List.set_cons_succ]
          refine take_F (i := 5) (d := some 20) (v := ?_) (by kernel_rfl) (by kernel_rfl) rfl rfl (by kernel_rfl) (by kernel_rfl) (by kernel_rfl) (fun _ _ _ h => h) (Or.inl ⟨by rfl, ?_⟩) (by assumption) ?_
          rotate_left
          · (intro w hSw; (try dsimp only at hSw); go_simp; (try rw [if_neg (by omega)]); (try (with_reducible rfl)))
          simp only [Act.put, List.setIfInBounds_toArray, List.set_cons_zero, List.set_cons_succ]
          refine take_F (i := 6) (d := some 21) (v := ?_) (by kernel_rfl) (by kernel_rfl) rfl rfl (by kernel_rfl) (by kernel_rfl) (by kernel_rfl) (fun _ _ _ h => h) (Or.inl ⟨by rfl, ?_⟩) (by assumption) ?_
          rotate_left
          · (intro w hSw; (try dsimp only at hSw); go_simp; (try rw [if_neg (by omega)]); (try (with_reducible rfl)))
          simp only [Act.put, List.setIfInBounds_toArray, List.set_cons_zero, List.set_cons_succ]
          refine take_L [12,11,10,7] (i := 7) (d := some 22) (v := ?_) (by kernel_rfl) (by kernel_rfl) (by kernel_rfl) (by kernel_rfl) rfl rfl (by kernel_rfl) (by kernel_rfl) (by kernel_rfl) (fun _ _ _ h => h) (Or.inl ⟨by rfl, ?_⟩) (by assumption) ?_
          rotate_left
          · (intro w hSw; (try dsimp only at hSw); go_simp; (try rw [if_neg (by omega)]); (try (with_reducible rfl)))
          simp only [Act.put, List.setIfInBounds_toArray, List.set_cons_zero, List.set_cons_succ]
          refine take_F (i := 8) (d := some 23) (v := ?_) (by kernel_rfl) (by kernel_rfl) rfl rfl (by kernel_rfl) (by kernel_rfl) (by kernel_rfl) (fun _ _ _ h => h) (Or.inl ⟨by rfl, ?_⟩) (by assumption) ?_
          rotate_left
          · (intro w hSw; (try dsimp only at hSw); go_simp; (try rw [if_neg (by omega)]); (try (with_reducible rfl)))
          simp only [Act.put, List.setIfInBounds_toArray, List.set_cons_zero, List.set_cons_succ]
          refine take_L [12,11,10,9] (i := 9) (d := some 24) (v := ?_) (by kernel_rfl) (by kernel_rfl) (by kernel_rfl) (by kernel_rfl) rfl rfl (by kernel_rfl) (by kernel_rfl) (by kernel_rfl) (fun _ _ _ h => h) (Or.inl ⟨by rfl, ?_⟩) (by assumption) ?_
          rotate_left
          · (intro w hSw; (try dsimp only at hSw); go_simp; (try rw [if_neg (by omega)]); (try (with_reducible rfl)))
          simp only [Act.put, List.setIfInBounds_toArray, List.set_cons_zero, List.set_cons_succ]
          refine take_F (i := 10) (d := some 25) (v := (.bool true)) (by kernel_rfl) (by kernel_rfl) rfl rfl (by kernel_rfl) (by kernel_rfl) (by kernel_rfl) (fun _ _ _ h => h) (Or.inl ⟨by rfl, ?_⟩) (by assumption) ?_
          · (intro w hSw; (try dsimp only at hSw); go_simp <;> first | omega | (simp; done) | (simp; omega))
          simp only [Act.put, List.setIfInBounds_toArray, List.set_cons_zero, List.set_cons_succ]
          refine take_F (i := 11) (d := some 26) (v := ?_) (by kernel_rfl) (by kernel_rfl) rfl rfl (by kernel_rfl) (by kernel_rfl) (by kernel_rfl) (fun _ _ _ h => h) (Or.inl ⟨by rfl, ?_⟩) (by assumption) ?_
          rotate_left
          · (intro w hSw; (try dsimp only at hSw); go_simp; (try rw [if_neg (by omega)]); (try (with_reducible rfl)))
          simp only [Act.put, List.setIfInBounds_toArray, List.set_cons_zero, List.set_cons_succ]
          refine take_F (i := 12) (d := some 27) (v := ?_) (by kernel_rfl) (by kernel_rfl) rfl rfl (by kernel_rfl) (by kernel_rfl) (by kernel_rfl) (fun _ _ _ h => h) (Or.inl ⟨by rfl, ?_⟩) (by assumption) ?_
          rotate_left
          · (intro w hSw; (try dsimp only at hSw); go_simp; (try rw [if_neg (by omega)]); (try (with_reducible rfl)))
          simp only [Act.put, List.setIfInBounds_toArray, List.set_cons_zero, List.set_cons_succ]
          refine take_F (i := 13) (d := some 28) (v := undef) (by kernel_rfl) (by kernel_rfl) rfl rfl (by kernel_rfl) (by kernel_rfl) (by kernel_rfl) (fun _ _ _ h => h) (Or.inr ⟨by rfl, rfl⟩) (by assumption) ?_
          simp only [Act.put, List.setIfInBounds_toArray, List.set_cons_zero, List.set_cons_succ]
          refine take_F (i := 14) (d := some 29) (v := undef) (by kernel_rfl) (by kernel_rfl) rfl rfl (by kernel_rfl) (by kernel_rfl) (by kernel_rfl) (fun _ _ _ h => h) (Or.inr ⟨by rfl, rfl⟩) (by assumption) ?_
          simp only [Act.put, List.setIfInBounds_toArray, List.set_cons_zero, List.set_cons_succ]
          refine take_F (i := 15) (d := some 30) (v := undef) (by kernel_rfl) (by kernel_rfl) rfl rfl (by kernel_rfl) (by kernel_rfl) (by kernel_rfl) (fun _ _ _ h => h) (Or.inr ⟨by rfl, rfl⟩) (by assumption) ?_
          simp only [Act.put, List.setIfInBounds_toArray, List.set_cons_zero, List.set_cons_succ]
          refine take_F (i := 16) (d := some 31) (v := undef) (by kernel_rfl) (by kernel_rfl) rfl rfl (by kernel_rfl) (by kernel_rfl) (by kernel_rfl) (fun _ _ _ h => h) (Or.inr ⟨by rfl, rfl⟩) (by assumption) ?_
          simp only [Act.put, List.setIfInBounds_toArray, List.set_cons_zero, List.set_cons_succ]
          refine take_F (i := 17) (d := some 32) (v := undef) (by kernel_rfl) (by kernel_rfl) rfl rfl (by kernel_rfl) (by kernel_rfl) (by kernel_rfl) (fun _ _ _ h => h) (Or.inr ⟨by rfl, rfl⟩) (by assumption) ?_
          simp only [Act.put, List.setIfInBounds_toArray, List.set_cons_zero, List.set_cons_succ]
          refine take_F (i := 18) (d := some 33) (v := undef) (by kernel_rfl) (by kernel_rfl) rfl rfl (by kernel_rfl) (by kernel_rfl) (by kernel_rfl) (fun _ _ _ h => h) (Or.inr ⟨by rfl, rfl⟩) (by assumption) ?_
          simp only [Act.put, List.setIfInBounds_toArray, List.set_cons_zero, List.set_cons_succ]
          refine call_L (i := 19) (d := (some 34)) rfl rfl (by kernel_rfl) (fun Kq hKq => ?_)
          go_simp
          refine hKq.out _ _ (⟨a0, a1, a2, a3, b0, b1, b2⟩) (fun hHeld => ?_)
          clear hKq Kq
          (try simp only [Act.put, List.setIfInBounds_toArray, List.set_cons_zero, List.set_cons_succ])
          refine take_F (i := 20) (d := some 35) (v := undef) (by kernel_rfl) (by kernel_rfl) rfl rfl (by kernel_rfl) (by kernel_rfl) (by kernel_rfl) (fun _ _ _ h => h) (Or.inr ⟨by rfl, rfl⟩) (by assumption) ?_
          simp only [Act.put, List.setIfInBounds_toArray, List.set_cons_zero, List.set_cons_succ]
          refine take_F (i := 21) (d := some 36) (v := ?_) (by kernel_rfl) (by kernel_rfl) rfl rfl (by kernel_rfl) (by kernel_rfl) (by kernel_rfl) (fun _ _ _ h => h) (Or.inl ⟨by rfl, ?_⟩) (by assumption) ?_
          rotate_left
          · (intro w hSw; (try dsimp only at hSw); go_simp; (try rw [if_neg (by omega)]); (try (with_reducible rfl)))
          simp only [Act.put, List.setIfInBounds_toArray, List.set_cons_zero, List.set_cons_succ]
          refine done_L (by kernel_rfl) ?_ _
          refine NoPanic.normal ?_
          clear a0 a1 a2 a3 az b0 b1 b2 b3
          obtain ⟨⟨z0, z1, z2, z3⟩, y0, y1, y2, y3⟩ := JN2.out.cZ
          have HD := Lib.hid (JN2.out.fin (.string ⟨#[]⟩) (.int .i64 0) (.int .i64 0) (.slice none 0 0))
          go_wp2_with fail
          obtain ⟨⟨k0, k1, k2, k3⟩, hbz⟩ := HD.out
          refine bodyPost_ret (v := .tuple #[.agg #[.string ⟨#[]⟩, .int .i64 0, .int .i64 0, .slice none 0 0], .int .i64 6]) (by simp [results, Tryd.results17, go_sem, k0, k1, k2, k3]) rfl ?_
          first | exact RetJn.no HC.out (by decide) hbz | exact RetJn.no HC.out (by decide) hbz.drew | exact RetJn.no HC.out (by decide) (below_drewN hbz _)
      · have HC := Lib.hid (jp_st HK1.out HK2.out (fun h => hss h.1))
        have hss' := ba_neq hss
        go_enter Tryd.func17, Tryd.ntmps17
        go_wp2_with fail
        obtain ⟨w0, hw0⟩ : ∃ z, (((w.alloc (.cells #[.string s, .int .i64 a, .int .i64 b, .slice A n c] 26)).alloc (.cells #[.string s', .int .i64 a', .int .i64 b', .slice A' m c'] 26)).alloc (.cells #[.string ⟨#[]⟩, .int .i64 0, .int .i64 0, .slice none 0 0] 26)) = z := ⟨_, rfl⟩
        have JN0 := Lib.hid (JnW.new w (.string s) (.int .i64 a) (.int .i64 b) (.slice A n c) (.string s') (.int .i64 a') (.int .i64 b') (.slice A' m c'))
        rw [hw0] at JN0
        (try rw [hw0])
        clear hw0
        refine (HV1.out _ JN0.out.bel).mono ?_; rintro e w1 ⟨rfl, hb1⟩
        have JN1 := Lib.hid (JN0.out.below hb1)
        clear hb1
        obtain ⟨a0, a1, a2, a3, az⟩ := JN1.out.cA
        obtain ⟨b0, b1, b2, b3⟩ := JN1.out.cB
        go_wp2_with fail
        refine (HV2.out _ JN1.out.bel).mono ?_; rintro e w2 ⟨rfl, hb2⟩
        have JN2 := Lib.hid (JN1.out.below hb2)
        clear hb2
        clear a0 a1 a2 a3 az b0 b1 b2 b3
        obtain ⟨a0, a1, a2, a3, az⟩ := JN2.out.cA
        obtain ⟨b0, b1, b2, b3⟩ := JN2.out.cB
        go_upto_region 3 with (fail)
        refine wp_region_noPanic ?_
        refine wp_region_L [] (fun w' => w'.cell? ⟨w.heap.size, 0, none⟩ = some (.string s) ∧ w'.cell? ⟨w.heap.size, 1, none⟩ = some (.int .i64 a) ∧ w'.cell? ⟨w.heap.size, 2, none⟩ = some (.int .i64 b) ∧ w'.cell? ⟨w.heap.size, 3, none⟩ = some (.slice A n c) ∧ w'.cell? ⟨w.heap.size + 1, 0, none⟩ = some (.string s') ∧ w'.cell? ⟨w.heap.size + 1, 1, none⟩ = some (.int .i64 a') ∧ w'.cell? ⟨w.heap.size + 1, 2, none⟩ = some (.int .i64 b')) (by kernel_rfl) (⟨a0, a1, a2, a3, b0, b1, b2⟩) (fun hHeld => ?_)
        refine take_F (i := 0) (d := some 15) (v := ?_) (by kernel_rfl) (by kernel_rfl) rfl rfl (by kernel_rfl) (by kernel_rfl) (by kernel_rfl) (fun _ _ _ h => h) (Or.inl ⟨by rfl, ?_⟩) (by assumption) ?_
        rotate_left
        · (intro w hSw; (try dsimp only at hSw); go_simp; (try rw [if_neg (by omega)]); (try (with_reducible rfl)))
        simp only [Act.put, List.setIfInBounds_toArray, List.set_cons_zero, List.set_cons_succ]
        refine take_L [12,5,4,1] (i := 1) (d := some 16) (v := ?_) (by kernel_rfl) (by kernel_rfl) (by kernel_rfl) (by kernel_rfl) rfl rfl (by kernel_rfl) (by kernel_rfl) (by kernel_rfl) (fun _ _ _ h => h) (Or.inl ⟨by rfl, ?_⟩) (by assumption) ?_
        rotate_left
        · (intro w hSw; (try dsimp only at hSw); go_simp; (try rw [if_neg (by omega)]); (try (with_reducible rfl)))
        simp only [Act.put, List.setIfInBounds_toArray, List.set_cons_zero, List.set_cons_succ]
        refine take_F (i := 2) (d := some 17) (v := ?_) (by kernel_rfl) (by kernel_rfl) rfl rfl (by kernel_rfl) (by kernel_rfl) (by kernel_rfl) (fun _ _ _ h => h) (Or.inl ⟨by rfl, ?_⟩) (by assumption) ?_
        rotate_left
        · (intro w hSw; (try dsimp only at hSw); go_simp; (try rw [if_neg (by omega)]); (try (with_reducible rfl)))
        simp only [Act.put, List.setIfInBounds_toArray, List.set_cons_zero, List.set_cons_succ]
        refine take_L [12,5,4,3] (i := 3) (d := some 18) (v := ?_) (by kernel_rfl) (by kernel_rfl) (by kernel_rfl) (by kernel_rfl) rfl rfl (by kernel_rfl) (by kernel_rfl) (by kernel_rfl) (fun _ _ _ h => h) (Or.inl ⟨by rfl, ?_⟩) (by assumption) ?_
        rotate_left
        · (intro w hSw; (try dsimp only at hSw); go_simp; (try rw [if_neg (by omega)]); (try (with_reducible rfl)))
        simp only [Act.put, List.setIfInBounds_toArray, List.set_cons_zero, List.set_cons_succ]
        refine take_F (i := 4) (d := some 19) (v := (.bool true)) (by kernel_rfl) (by kernel_rfl) rfl rfl (by kernel_rfl) (by kernel_rfl) (by kernel_rfl) (fun _ _ _ h => h) (Or.inl ⟨by rfl, ?_⟩) (by assumption) ?_
        · (intro w hSw; (try dsimp only at hSw); go_simp <;> first | omega | (simp; done) | (simp; omega))
        simp only [Act.put, List.setIfInBounds_toArray, List.set_cons_zero, List.set_cons_succ]
        refine take_F (i := 5) (d := some 20) (v := ?_) (by kernel_rfl) (by kernel_rfl) rfl rfl (by kernel_rfl) (by kernel_rfl) (by kernel_rfl) (fun _ _ _ h => h) (Or.inl ⟨by rfl, ?_⟩) (by assumption) ?_
        rotate_left
        · (intro w hSw; (try dsimp only at hSw); go_simp; (try rw [if_neg (by omega)]); (try (with_reducible rfl)))
        simp only [Act.put, List.setIfInBounds_toArray, List.set_cons_zero, List.set_cons_succ]
        refine take_F (i := 6) (d := some 21) (v := undef) (by kernel_rfl) (by kernel_rfl) rfl rfl (by kernel_rfl) (by kernel_rfl) (by kernel_rfl) (fun _ _ _ h => h) (Or.inr ⟨by rfl, rfl⟩) (by assumption) ?_
        simp only [Act.put, List.setIfInBounds_toArray, List.set_cons_zero, List.set_cons_succ]
        refine take_F (i := 7) (d := some 22) (v := undef) (by kernel_rfl) (by kernel_rfl) rfl rfl (by kernel_rfl) (by kernel_rfl) (by kernel_rfl) (fun _ _ _ h => h) (Or.inr ⟨by rfl, rfl⟩) (by assumption) ?_
        simp only [Act.put, List.setIfInBounds_toArray, List.set_cons_zero, List.set_cons_succ]
        refine take_F (i := 8) (d := some 23) (v := undef) (by kernel_rfl) (by kernel_rfl) rfl rfl (by kernel_rfl) (by kernel_rfl) (by kernel_rfl) (fun _ _ _ h => h) (Or.inr ⟨by rfl, rfl⟩) (by assumption) ?_
        simp only [Act.put, List.setIfInBounds_toArray, List.set_cons_zero, List.set_cons_succ]
        refine take_F (i := 9) (d := some 24) (v := undef) (by kernel_rfl) (by kernel_rfl) rfl rfl (by kernel_rfl) (by kernel_rfl) (by kernel_rfl) (fun _ _ _ h => h) (Or.inr ⟨by rfl, rfl⟩) (by assumption) ?_
        simp only [Act.put, List.setIfInBounds_toArray, List.set_cons_zero, List.set_cons_succ]
        refine take_F (i := 10) (d := some 25) (v := undef) (by kernel_rfl) (by kernel_rfl) rfl rfl (by kernel_rfl) (by kernel_rfl) (by kernel_rfl) (fun _ _ _ h => h) (Or.inr ⟨by rfl, rfl⟩) (by assumption) ?_
        simp only [Act.put, List.setIfInBounds_toArray, List.set_cons_zero, List.set_cons_succ]
        refine take_F (i := 11) (d := some 26) (v := ?_) (by kernel_rfl) (by kernel_rfl) rfl rfl (by kernel_rfl) (by kernel_rfl) (by kernel_rfl) (fun _ _ _ h => h) (Or.inl ⟨by rfl, ?_⟩) (by assumption) ?_
        rotate_left
        · (intro w hSw; (try dsimp only at hSw); go_simp; (try rw [if_neg (by omega)]); (try (with_reducible rfl)))
        simp only [Act.put, List.setIfInBounds_toArray, List.set_cons_zero, List.set_cons_succ]
        refine take_F (i := 12) (d := some 27) (v := ?_) (by kernel_rfl) (by kernel_rfl) rfl rfl (by kernel_rfl) (by kernel_rfl) (by kernel_rfl) (fun _ _ _ h => h) (Or.inl ⟨by rfl, ?_⟩) (by assumption) ?_
        rotate_left
        · (intro w hSw; (try dsimp only at hSw); go_simp; (try rw [if_neg (by omega)]); (try (with_reducible rfl)))
        simp only [Act.put, List.setIfInBounds_toArray, List.set_cons_zero, List.set_cons_succ]
        refine take_F (i := 13) (d := some 28) (v := undef) (by kernel_rfl) (by kernel_rfl) rfl rfl (by kernel_rfl) (by kernel_rfl) (by kernel_rfl) (fun _ _ _ h => h) (Or.inr ⟨by rfl, rfl⟩) (by assumption) ?_
        simp only [Act.put, List.setIfInBounds_toArray, List.set_cons_zero, List.set_cons_succ]
        refine take_F (i := 14) (d := some 29) (v := undef) (by kernel_rfl) (by kernel_rfl) rfl rfl (by kernel_rfl) (by kernel_rfl) (by kernel_rfl) (fun _ _ _ h => h) (Or.inr ⟨by rfl, rfl⟩) (by assumption) ?_
        simp only [Act.put, List.setIfInBounds_toArray, List.set_cons_zero, List.set_cons_succ]
        refine take_F (i := 15) (d := some 30) (v := undef) (by kernel_rfl) (by kernel_rfl) rfl rfl (by kernel_rfl) (by kernel_rfl) (by kernel_rfl) (fun _ _ _ h => h) (Or.inr ⟨by rfl, rfl⟩) (by assumption) ?_
        simp only [Act.put, List.setIfInBounds_toArray, List.set_cons_zero, List.set_cons_succ]
        refine take_F (i := 16) (d := some 31) (v := undef) (by kernel_rfl) (by kernel_rfl) rfl rfl (by kernel_rfl) (by kernel_rfl) (by kernel_rfl) (fun _ _ _ h => h) (Or.inr ⟨by rfl, rfl⟩) (by assumption) ?_
        simp only [Act.put, List.setIfInBounds_toArray, List.set_cons_zero, List.set_cons_succ]
        refine take_F (i := 17) (d := some 32) (v := undef) (by kernel_rfl) (by kernel_rfl) rfl rfl (by kernel_rfl) (by kernel_rfl) (by kernel_rfl) (fun _ _ _ h => h) (Or.inr ⟨by rfl, rfl⟩) (by assumption) ?_
        simp only [Act.put, List.setIfInBounds_toArray, List.set_cons_zero, List.set_cons_succ]
        refine take_F (i := 18) (d := some 33) (v := undef) (by kernel_rfl) (by kernel_rfl) rfl rfl (by kernel_rfl) (by kernel_rfl) (by kernel_rfl) (fun _ _ _ h => h) (Or.inr ⟨by rfl, rfl⟩) (by assumption) ?_
        simp only [Act.put, List.setIfInBounds_toArray, List.set_cons_zero, List.set_cons_succ]
        refine call_L (i := 19) (d := (some 34)) rfl rfl (by kernel_rfl) (fun Kq hKq => ?_)
        go_simp
        refine hKq.out _ _ (⟨a0, a1, a2, a3, b0, b1, b2⟩) (fun hHeld => ?_)
        clear hKq Kq
        (try simp only [Act.put, List.setIfInBounds_toArray, List.set_cons_zero, List.set_cons_succ])
        refine take_F (i := 20) (d := some 35) (v := undef) (by kernel_rfl) (by kernel_rfl) rfl rfl (by kernel_rfl) (by kernel_rfl) (by kernel_rfl) (fun _ _ _ h => h) (Or.inr ⟨by rfl, rfl⟩) (by assumption) ?_
        simp only [Act.put, List.setIfInBounds_toArray, List.set_cons_zero, List.set_cons_succ]
        refine take_F (i := 21) (d := some 36) (v := ?_) (by kernel_rfl) (by kernel_rfl) rfl rfl (by kernel_rfl) (by kernel_rfl) (by kernel_rfl) (fun _ _ _ h => h) (Or.inl ⟨by rfl, ?_⟩) (by assumption) ?_
        rotate_left
        · (intro w hSw; (try dsimp only at hSw); go_simp; (try rw [if_neg (by omega)]); (try (with_reducible rfl)))
        simp only [Act.put, List.setIfInBounds_toArray, List.set_cons_zero, List.set_cons_succ]
        refine done_L (by kernel_rfl) ?_ _
        refine NoPanic.normal ?_
        clear a0 a1 a2 a3 az b0 b1 b2 b3
        obtain ⟨⟨z0, z1, z2, z3⟩, y0, y1, y2, y3⟩ := JN2.out.cZ
        have HD := Lib.hid (JN2.out.fin (.string ⟨#[]⟩) (.int .i64 0) (.int .i64 0) (.slice none 0 0))
        go_wp2_with fail
        obtain ⟨⟨k0, k1, k2, k3⟩, hbz⟩ := HD.out
        refine bodyPost_ret (v := .tuple #[.agg #[.string ⟨#[]⟩, .int .i64 0, .int .i64 0, .slice none 0 0], .int .i64 6]) (by simp [results, Tryd.results17, go_sem, k0, k1, k2, k3]) rfl ?_
        first | exact RetJn.no HC.out (by decide) hbz | exact RetJn.no HC.out (by decide) hbz.drew | exact RetJn.no HC.out (by decide) (below_drewN hbz _)
set_option maxRecDepth 100000 in
set_option maxHeartbeats 3200000 in
theorem JoinS_any (B : Nat) (s : ByteArray) (a b : Int) (A : Option Addr) (n c : Nat) (f : Nat → Int) (B' : Nat) (s' : ByteArray) (a' b' : Int) (A' : Option Addr) (m c' : Nat) (g : Nat → Int) (w : World) (hs : s.size ≤ 1048576) (h : Rd w B (.slice A n c) n 1 (tab n f)) (hB : B ≤ w.heap.size) (hn : n ≤ 1000) (hs' : s'.size ≤ 1048576) (h' : Rd w B' (.slice A' m c') m 1 (tab m g)) (hB' : B' ≤ w.heap.size) (hm : m ≤ 1000) :
    Calls Tryd.prog 18 #[.agg #[.string s, .int .i64 a, .int .i64 b, .slice A n c], .agg #[.string s', .int .i64 a', .int .i64 b', .slice A' m c']] w (RetJn (jpC s a b n f s' a' b' m g) ⟨s, a, b, n + m⟩ (catA n f g) w) := by
  have HV1 := Lib.hid (fun wq (hq : JnW w wq (.string s) (.int .i64 a) (.int .i64 b) (.slice A n c) (.string s') (.int .i64 a') (.int .i64 b') (.slice A' m c')) => l18Ok_c w.heap.size B s a b A n c f wq hs hq.cA.1 hq.cA.2.1 hq.cA.2.2.1 hq.cA.2.2.2.1 (h.below (hq.bel.mono hB)) hn)
  have HV2 := Lib.hid (fun wq (hq : JnW w wq (.string s) (.int .i64 a) (.int .i64 b) (.slice A n c) (.string s') (.int .i64 a') (.int .i64 b') (.slice A' m c')) => l18Ok_c (w.heap.size + 1) B' s' a' b' A' m c' g wq hs' hq.cB.1 hq.cB.2.1 hq.cB.2.2.1 hq.cB.2.2.2 (h'.below (hq.bel.mono hB')) hm)
  have H1 := Lib.hid h
  have H2 := Lib.hid h'
  clear h h'
  cases hok1 : pgOk s.data.toList a b n f with
  | false =>
    have HC := Lib.hid (jp_one (s' := s') (a' := a') (b' := b') (m := m) (g := g) hok1)
    rw [hok1] at HV1
    clear hok1 HV2
    go_enter Tryd.func18, Tryd.ntmps18
    go_wp2_with fail
    obtain ⟨w0, hw0⟩ : ∃ z, (((w.alloc (.cells #[.string s, .int .i64 a, .int .i64 b, .slice A n c] 26)).alloc (.cells #[.string s', .int .i64 a', .int .i64 b', .slice A' m c'] 26)).alloc (.cells #[.string ⟨#[]⟩, .int .i64 0, .int .i64 0, .slice none 0 0] 26)) = z := ⟨_, rfl⟩
    have JN0 := Lib.hid (JnW.new w (.string s) (.int .i64 a) (.int .i64 b) (.slice A n c) (.string s') (.int .i64 a') (.int .i64 b') (.slice A' m c'))
    rw [hw0] at JN0
    (try rw [hw0])
    clear hw0
    refine (HV1.out _ JN0.out).mono ?_; rintro e w1 ⟨rfl, dd1, hd1⟩
    have JN1 := Lib.hid (JN0.out.below (show Below _ _ w1 by rw [hd1]; exact below_drewN (Below.refl _ _) dd1))
    clear hd1
    obtain ⟨⟨z0, z1, z2, z3⟩, y0, y1, y2, y3⟩ := JN1.out.cZ
    have HD := Lib.hid (JN1.out.fin (.string ⟨#[]⟩) (.int .i64 0) (.int .i64 0) (.slice none 0 0))
    go_wp2_with fail
    obtain ⟨⟨k0, k1, k2, k3⟩, hbz⟩ := HD.out
    refine bodyPost_ret (v := .tuple #[.agg #[.string ⟨#[]⟩, .int .i64 0, .int .i64 0, .slice none 0 0], .int .i64 1]) (by simp [results, Tryd.results18, go_sem, k0, k1, k2, k3]) rfl ?_
    first | exact RetJn.no HC.out (by decide) hbz | exact RetJn.no HC.out (by decide) hbz.drew | exact RetJn.no HC.out (by decide) (below_drewN hbz _)
  | true =>
    cases hok2 : pgOk s'.data.toList a' b' m g with
    | false =>
      have HC := Lib.hid (jp_two (s := s) (a := a) (b := b) (n := n) (f := f) hok2)
      rw [hok1] at HV1
      rw [hok2] at HV2
      clear hok1 hok2
      go_enter Tryd.func18, Tryd.ntmps18
      go_wp2_with fail
      obtain ⟨w0, hw0⟩ : ∃ z, (((w.alloc (.cells #[.string s, .int .i64 a, .int .i64 b, .slice A n c] 26)).alloc (.cells #[.string s', .int .i64 a', .int .i64 b', .slice A' m c'] 26)).alloc (.cells #[.string ⟨#[]⟩, .int .i64 0, .int .i64 0, .slice none 0 0] 26)) = z := ⟨_, rfl⟩
      have JN0 := Lib.hid (JnW.new w (.string s) (.int .i64 a) (.int .i64 b) (.slice A n c) (.string s') (.int .i64 a') (.int .i64 b') (.slice A' m c'))
      rw [hw0] at JN0
      (try rw [hw0])
      clear hw0
      refine (HV1.out _ JN0.out).mono ?_; rintro e w1 ⟨rfl, dd1, hd1⟩
      have JN1 := Lib.hid (JN0.out.below (show Below _ _ w1 by rw [hd1]; exact below_drewN (Below.refl _ _) dd1))
      clear hd1
      obtain ⟨a0, a1, a2, a3, az⟩ := JN1.out.cA
      obtain ⟨b0, b1, b2, b3⟩ := JN1.out.cB
      go_wp2_with fail
      refine (HV2.out _ JN1.out).mono ?_; rintro e w2 ⟨rfl, dd2, hd2⟩
      have JN2 := Lib.hid (JN1.out.below (show Below _ _ w2 by rw [hd2]; exact below_drewN (Below.refl _ _) dd2))
      clear hd2
      clear a0 a1 a2 a3 az b0 b1 b2 b3
      obtain ⟨⟨z0, z1, z2, z3⟩, y0, y1, y2, y3⟩ := JN2.out.cZ
      have HD := Lib.hid (JN2.out.fin (.string ⟨#[]⟩) (.int .i64 0) (.int .i64 0) (.slice none 0 0))
      go_wp2_with fail
      obtain ⟨⟨k0, k1, k2, k3⟩, hbz⟩ := HD.out
      refine bodyPost_ret (v := .tuple #[.agg #[.string ⟨#[]⟩, .int .i64 0, .int .i64 0, .slice none 0 0], .int .i64 1]) (by simp [results, Tryd.results18, go_sem, k0, k1, k2, k3]) rfl ?_
      first | exact RetJn.no HC.out (by decide) hbz | exact RetJn.no HC.out (by decide) hbz.drew | exact RetJn.no HC.out (by decide) (below_drewN hbz _)
    | true =>
      have HG1 := Lib.hid (pgF hok1)
      have HG2 := Lib.hid (pgF hok2)
      have HK1 := Lib.hid hok1
      have HK2 := Lib.hid hok2
      rw [hok1] at HV1
      rw [hok2] at HV2
      clear hok1 hok2
      have hn1 := HG1.out.n1
      have hn60 := HG1.out.n60
      have hm1 := HG2.out.n1
      have hm60 := HG2.out.n60
      obtain ⟨ha0, ha1⟩ := HG1.out.a0
      obtain ⟨hb0, hb2⟩ := HG1.out.b0
      have hP : 0 ≤ (n : Int) * b ∧ (n : Int) * b ≤ 60000 := by
        have e1 := Int.mul_nonneg (show 0 ≤ (n : Int) by omega) (show 0 ≤ b by omega)
        obtain ⟨bb, rfl⟩ : ∃ bb : Nat, b = (bb : Int) := ⟨b.toNat, by omega⟩
        have e2 : n * bb ≤ 60 * 1000 := Nat.mul_le_mul hn60 (by omega)
        have e3 : (n : Int) * (bb : Int) = ((n * bb : Nat) : Int) := by simp
        rw [e3]; omega
      have HAr := Lib.hid (fun wx => argumentB_c s a b (n : Int) A n c wx ⟨ha0, ha1⟩ hP)
      obtain ⟨hP0, hP1⟩ := hP
      by_cases hss : s = s'
      · subst hss
        by_cases hbb : b = b'
        · subst hbb
          by_cases haa : a' = a + (n : Int) * b
          · have HC := Lib.hid (show jpC s a b n f s a' b m g = if pgOk s.data.toList a b (n + m) (catA n f g) = true then 0 else 5 by rw [haa] at HK2 ⊢; exact jp_go HK1.out HK2.out)
            obtain ⟨P, hPe⟩ : ∃ P, (n : Int) * b = P := ⟨_, rfl⟩
            rw [hPe] at HAr hP0 hP1 haa
            have hwp : IntKind.i64.wrap ((n : Int) * b) = P := by rw [hPe]; exact IntWalk.i64_in _ (by omega)
            have hwa : IntKind.i64.wrap (a + P) = a + P := IntWalk.i64_in _ (by omega)
            obtain ⟨Q, hQ⟩ : ∃ Q, a + P = Q := ⟨_, rfl⟩
            rw [hQ] at HAr haa hwa
            subst haa
            have HPe := Lib.hid hPe
            have HQ := Lib.hid hQ
            clear hPe hQ
            have HLm := Lib.hid (show (tab m g).length = m * 1 by rw [tab_len, Nat.mul_one])
            have Hmx := Lib.hid (show n + m ≤ maxLen by simp only [maxLen]; omega)
            have Hby := Lib.hid (show (n + m) * 8 ≤ 140737488355328 by omega)
            obtain ⟨gb, ob, hA', hgb, hcc'⟩ := rdF_all H2.out (show 0 < m by omega)
            subst hA'
            have HCc := Lib.hid (fun wq (hq : Below w.heap.size w wq) i u (hu : (tab m g)[i]? = some u) => (show wq.cell? ⟨gb, ob + i, none⟩ = some u from by
              have hi : i < m := by
                rcases Nat.lt_or_ge i m with h | h
                · exact h
                · rw [List.getElem?_eq_none (by rw [tab_len]; exact h)] at hu; cases hu
              rw [tab_at g hi] at hu
              exact ((hq.cell (p := ⟨gb, ob + i, none⟩) (show gb < w.heap.size by omega)).trans (hcc' i hi)).trans hu))
            have HCp := Lib.hid (fun wq (hq : Below w.heap.size w wq) => l00Own_c B (.slice A n c) n f wq (H1.out.below (hq.mono hB)) (Nat.le_trans hB hq.size) hn (by omega))
            clear hcc'
            cases hok3 : pgOk s.data.toList a b (n + m) (catA n f g) with
            | false =>
              rw [hok3, if_neg (by simp)] at HC
              have HV3 := Lib.hid (fun q wq A5 c5 (hq : wq.ownsRow (w.heap.size + 3) 2 1 (.slice A5 (n + m) c5) (n + m) (tab (n + m) (catA n f g))) (hh : wq.heap[q]? = some (.cells #[.string s, .int .i64 a, .int .i64 b, .slice A5 (n + m) c5] 26 (0, 0))) => l18Ok_c q wq.heap.size s a b A5 (n + m) c5 (catA n f g) wq hs (blk4 hh).1 (blk4 hh).2.1 (blk4 hh).2.2.1 (blk4 hh).2.2.2.1 (Rd.of_own hq) (by omega))
              rw [hok3] at HV3
              clear hok3
              have hQe := HQ.out
              go_enter Tryd.func18, Tryd.ntmps18
              go_wp2_with fail
              obtain ⟨w0, hw0⟩ : ∃ z, (((w.alloc (.cells #[.string s, .int .i64 a, .int .i64 b, .slice A n c] 26)).alloc (.cells #[.string s, .int .i64 a', .int .i64 b, .slice (some ⟨gb, ob, none⟩) m c'] 26)).alloc (.cells #[.string ⟨#[]⟩, .int .i64 0, .int .i64 0, .slice none 0 0] 26)) = z := ⟨_, rfl⟩
              have JN0 := Lib.hid (JnW.new w (.string s) (.int .i64 a) (.int .i64 b) (.slice A n c) (.string s) (.int .i64 a') (.int .i64 b) (.slice (some ⟨gb, ob, none⟩) m c'))
              rw [hw0] at JN0
              (try rw [hw0])
              clear hw0
              refine (HV1.out _ JN0.out).mono ?_; rintro e w1 ⟨rfl, dd1, hd1⟩
              have JN1 := Lib.hid (JN0.out.below (show Below _ _ w1 by rw [hd1]; exact below_drewN (Below.refl _ _) dd1))
              clear hd1
              obtain ⟨a0, a1, a2, a3, az⟩ := JN1.out.cA
              obtain ⟨b0, b1, b2, b3⟩ := JN1.out.cB
              go_wp2_with fail
              refine (HV2.out _ JN1.out).mono ?_; rintro e w2 ⟨rfl, dd2, hd2⟩
              have JN2 := Lib.hid (JN1.out.below (show Below _ _ w2 by rw [hd2]; exact below_drewN (Below.refl _ _) dd2))
              clear hd2
              clear a0 a1 a2 a3 az b0 b1 b2 b3
              obtain ⟨a0, a1, a2, a3, az⟩ := JN2.out.cA
              obtain ⟨b0, b1, b2, b3⟩ := JN2.out.cB
              go_upto_region 6 with (fail)
              clear hQe
              obtain ⟨q, hq⟩ : ∃ q, w2.heap.size = q := ⟨_, rfl⟩
              have hHq := heap_alloc_new w2 (.cells #[.string s, .int .i64 a, .int .i64 b, .slice A n c] 26)
              have hba := (Below.refl w2.heap.size w2).alloc (Nat.le_refl _) (.cells #[.string s, .int .i64 a, .int .i64 b, .slice A n c] 26)
              have JN3 := Lib.hid (JN2.out.below hba)
              have hq3 := JN2.out.sz
              have hqs : w2.heap.size < (w2.alloc (.cells #[.string s, .int .i64 a, .int .i64 b, .slice A n c] 26)).heap.size := by simp
              generalize w2.alloc (.cells #[.string s, .int .i64 a, .int .i64 b, .slice A n c] 26) = w3 at *
              (try rw [hq])
              rw [hq] at hHq hq3 hqs
              have HHq := Lib.hid hHq
              clear hHq hba hq a0 a1 a2 a3 az b0 b1 b2 b3
              obtain ⟨a0, a1, a2, a3, az⟩ := JN3.out.cA
              obtain ⟨b0, b1, b2, b3⟩ := JN3.out.cB
              refine wp_region_noPanic ?_
              refine wp_region_L [7,6,5] (fun w' => w'.cell? ⟨w.heap.size, 3, none⟩ = some (.slice A n c) ∧ w'.cell? ⟨w.heap.size + 1, 3, none⟩ = some (.slice (some ⟨gb, ob, none⟩) m c')) (by kernel_rfl) (⟨a3, b3⟩) (fun hHeld => ?_)
              refine take_F (i := 0) (d := some 42) (v := ?_) (by kernel_rfl) (by kernel_rfl) rfl rfl (by kernel_rfl) (by kernel_rfl) (by kernel_rfl) (fun _ _ _ h => h) (Or.inl ⟨by rfl, ?_⟩) (by assumption) ?_
              rotate_left
              · (intro w hSw; (try dsimp only at hSw); go_simp; (try rw [if_neg (by omega)]); (try (with_reducible rfl)))
              simp only [Act.put, List.setIfInBounds_toArray, List.set_cons_zero, List.set_cons_succ]
              refine take_L [2,1] (i := 1) (d := some 43) (v := ?_) (by kernel_rfl) (by kernel_rfl) (by kernel_rfl) (by kernel_rfl) rfl rfl (by kernel_rfl) (by kernel_rfl) (by kernel_rfl) (fun _ _ _ h => h) (Or.inl ⟨by rfl, ?_⟩) (by assumption) ?_
              rotate_left
              · (intro w hSw; (try dsimp only at hSw); go_simp; (try rw [if_neg (by omega)]); (try (with_reducible rfl)))
              simp only [Act.put, List.setIfInBounds_toArray, List.set_cons_zero, List.set_cons_succ]
              refine take_F (i := 3) (d := some 45) (v := ?_) (by kernel_rfl) (by kernel_rfl) rfl rfl (by kernel_rfl) (by kernel_rfl) (by kernel_rfl) (fun _ _ _ h => h) (Or.inl ⟨by rfl, ?_⟩) (by assumption) ?_
              rotate_left
              · (intro w hSw; (try dsimp only at hSw); go_simp; (try rw [if_neg (by omega)]); (try (with_reducible rfl)))
              simp only [Act.put, List.setIfInBounds_toArray, List.set_cons_zero, List.set_cons_succ]
              refine take_L [4] (i := 4) (d := some 46) (v := ?_) (by kernel_rfl) (by kernel_rfl) (by kernel_rfl) (by kernel_rfl) rfl rfl (by kernel_rfl) (by kernel_rfl) (by kernel_rfl) (fun _ _ _ h => h) (Or.inl ⟨by rfl, ?_⟩) (by assumption) ?_
              rotate_left
              · (intro w hSw; (try dsimp only at hSw); go_simp; (try rw [if_neg (by omega)]); (try (with_reducible rfl)))
              simp only [Act.put, List.setIfInBounds_toArray, List.set_cons_zero, List.set_cons_succ]
              refine call_L (i := 2) (d := (some 44)) rfl rfl (by kernel_rfl) (fun Kq hKq => ?_)
              go_simp
              go_at_call 49
              refine (HCp.out _ JN3.out.bel.drew).mono ?_; rintro e w4 ⟨v4, rfl, ho4, hb4⟩
              have JN4 := Lib.hid (JN3.out.below (below_undrew hb4))
              obtain ⟨A4, c4, rfl⟩ := own_sl ho4
              have Ho4 := Lib.hid ho4
              have hz4 : w3.heap.size ≤ w4.heap.size := hb4.size
              have Hcc4 := Lib.hid (HCc.out w4 JN4.out.bel)
              have HHq4 := Lib.hid ((hb4.block q hqs).trans HHq.out)
              clear ho4 hb4 a0 a1 a2 a3 az b0 b1 b2 b3
              obtain ⟨a0, a1, a2, a3, az⟩ := JN4.out.cA
              obtain ⟨b0, b1, b2, b3⟩ := JN4.out.cB
              (try go_wp2_with fail)
              refine hKq.out _ _ (⟨a3, b3⟩) (fun hHeld => ?_)
              clear hKq Kq
              (try simp only [Act.put, List.setIfInBounds_toArray, List.set_cons_zero, List.set_cons_succ])
              refine late_L (i := 5) (d := (some 47)) (by kernel_rfl) rfl rfl (by kernel_rfl) (fun Kq hKq => ?_)
              refine step_apr 24 2 _ 1 8 Tryd.underlying24 infoD rfl (by omega) _ _ (by rfl) (by rfl) w3.heap.size _ n _ (by rfl) Ho4.out gb ob m c' (tab m g) (by rfl) HLm.out Hcc4.out (tab_one m g) Hmx.out Hby.out hz4 ?_; intro v5 w5 ho5 hg5
              have hba5 := below_apd (Below.refl w3.heap.size w4) Ho4.out hg5 (Nat.le_refl _) hz4
              have JN5 := Lib.hid (JN4.out.below' hba5 JN3.out.sz)
              have hHq5 := (hba5.block q hqs).trans HHq4.out
              obtain ⟨A5, c5, rfl⟩ := own_sl ho5
              rw [← catA_tab] at ho5
              have Ho5 := Lib.hid (ownsRow_le (ownsRow_setCell_below ho5 (a := ⟨q, 3, none⟩) hqs (.slice A5 (n + m) c5)) JN3.out.sz)
              have hs6 : Below q w5 (w5.setCell ⟨q, 3, none⟩ (.slice A5 (n + m) c5)) := (Below.refl q w5).setCell (p := ⟨q, 3, none⟩) (Nat.le_refl _) _
              have JN6 := Lib.hid (JN5.out.below' hs6 hq3)
              have HH6 := Lib.hid (heap_setCell_same w5 q 3 _ _ (.slice A5 (n + m) c5) hHq5)
              obtain ⟨_, _, _, j3, jz⟩ := blk4 hHq5
              have j4 := jz 3
              clear ho5 hg5 a0 a1 a2 a3 az b0 b1 b2 b3 hs6 hba5 hHq5 jz
              refine hKq.out _ _ ?_
              clear hKq Kq
              simp only [Act.put, List.setIfInBounds_toArray]
              refine late_L (i := 6) (d := (some 48)) (by kernel_rfl) rfl rfl (by kernel_rfl) (fun Kq hKq => ?_)
              go_simp
              refine hKq.out _ _ ?_
              clear hKq Kq
              refine late_L (i := 7) (d := none) (by kernel_rfl) rfl rfl (by kernel_rfl) (fun Kq hKq => ?_)
              go_simp
              refine hKq.out _ _ ?_
              clear hKq Kq
              refine done_L (by kernel_rfl) ?_ _
              refine NoPanic.normal ?_
              go_upto_region 7 with (fail)
              generalize w5.setCell ⟨q, 3, none⟩ (.slice A5 (n + m) c5) = w6 at *
              clear j3 j4
              go_wp2_with fail
              refine (HV3.out q _ _ _ Ho5.out HH6.out).mono ?_; rintro e w7 ⟨rfl, d7, hd7⟩
              have hb7 : Below w6.heap.size w6 w7 := by rw [hd7]; exact below_drewN (Below.refl _ _) d7
              have JN7 := Lib.hid (JN6.out.below hb7)
              have Ho7 := Lib.hid (own_below Ho5.out hb7)
              have HH7 := Lib.hid ((hb7.block q (Array.getElem?_eq_some_iff.1 HH6.out).1).trans HH6.out)
              clear hb7 hd7
              obtain ⟨⟨z0, z1, z2, z3⟩, y0, y1, y2, y3⟩ := JN7.out.cZ
              have HD := Lib.hid (JN7.out.fin (.string ⟨#[]⟩) (.int .i64 0) (.int .i64 0) (.slice none 0 0))
              go_wp2_with fail
              obtain ⟨⟨k0, k1, k2, k3⟩, hbz⟩ := HD.out
              refine bodyPost_ret (v := .tuple #[.agg #[.string ⟨#[]⟩, .int .i64 0, .int .i64 0, .slice none 0 0], .int .i64 5]) (by simp [results, Tryd.results18, go_sem, k0, k1, k2, k3]) rfl ?_
              first | exact RetJn.no HC.out (by decide) hbz | exact RetJn.no HC.out (by decide) hbz.drew | exact RetJn.no HC.out (by decide) (below_drewN hbz _)
            | true =>
              rw [hok3, if_pos rfl] at HC
              have HV3 := Lib.hid (fun q wq A5 c5 (hq : wq.ownsRow (w.heap.size + 3) 2 1 (.slice A5 (n + m) c5) (n + m) (tab (n + m) (catA n f g))) (hh : wq.heap[q]? = some (.cells #[.string s, .int .i64 a, .int .i64 b, .slice A5 (n + m) c5] 26 (0, 0))) => l18Ok_c q wq.heap.size s a b A5 (n + m) c5 (catA n f g) wq hs (blk4 hh).1 (blk4 hh).2.1 (blk4 hh).2.2.1 (blk4 hh).2.2.2.1 (Rd.of_own hq) (by omega))
              rw [hok3] at HV3
              clear hok3
              have hQe := HQ.out
              go_enter Tryd.func18, Tryd.ntmps18
              go_wp2_with fail
              obtain ⟨w0, hw0⟩ : ∃ z, (((w.alloc (.cells #[.string s, .int .i64 a, .int .i64 b, .slice A n c] 26)).alloc (.cells #[.string s, .int .i64 a', .int .i64 b, .slice (some ⟨gb, ob, none⟩) m c'] 26)).alloc (.cells #[.string ⟨#[]⟩, .int .i64 0, .int .i64 0, .slice none 0 0] 26)) = z := ⟨_, rfl⟩
              have JN0 := Lib.hid (JnW.new w (.string s) (.int .i64 a) (.int .i64 b) (.slice A n c) (.string s) (.int .i64 a') (.int .i64 b) (.slice (some ⟨gb, ob, none⟩) m c'))
              rw [hw0] at JN0
              (try rw [hw0])
              clear hw0
              refine (HV1.out _ JN0.out).mono ?_; rintro e w1 ⟨rfl, dd1, hd1⟩
              have JN1 := Lib.hid (JN0.out.below (show Below _ _ w1 by rw [hd1]; exact below_drewN (Below.refl _ _) dd1))
              clear hd1
              obtain ⟨a0, a1, a2, a3, az⟩ := JN1.out.cA
              obtain ⟨b0, b1, b2, b3⟩ := JN1.out.cB
              go_wp2_with fail
              refine (HV2.out _ JN1.out).mono ?_; rintro e w2 ⟨rfl, dd2, hd2⟩
              have JN2 := Lib.hid (JN1.out.below (show Below _ _ w2 by rw [hd2]; exact below_drewN (Below.refl _ _) dd2))
              clear hd2
              clear a0 a1 a2 a3 az b0 b1 b2 b3
              obtain ⟨a0, a1, a2, a3, az⟩ := JN2.out.cA
              obtain ⟨b0, b1, b2, b3⟩ := JN2.out.cB
              go_upto_region 6 with (fail)
              clear hQe
              obtain ⟨q, hq⟩ : ∃ q, w2.heap.size = q := ⟨_, rfl⟩
              have hHq := heap_alloc_new w2 (.cells #[.string s, .int .i64 a, .int .i64 b, .slice A n c] 26)
              have hba := (Below.refl w2.heap.size w2).alloc (Nat.le_refl _) (.cells #[.string s, .int .i64 a, .int .i64 b, .slice A n c] 26)
              have JN3 := Lib.hid (JN2.out.below hba)
              have hq3 := JN2.out.sz
              have hqs : w2.heap.size < (w2.alloc (.cells #[.string s, .int .i64 a, .int .i64 b, .slice A n c] 26)).heap.size := by simp
              generalize w2.alloc (.cells #[.string s, .int .i64 a, .int .i64 b, .slice A n c] 26) = w3 at *
              (try rw [hq])
              rw [hq] at hHq hq3 hqs
              have HHq := Lib.hid hHq
              clear hHq hba hq a0 a1 a2 a3 az b0 b1 b2 b3
              obtain ⟨a0, a1, a2, a3, az⟩ := JN3.out.cA
              obtain ⟨b0, b1, b2, b3⟩ := JN3.out.cB
              refine wp_region_noPanic ?_
              refine wp_region_L [7,6,5] (fun w' => w'.cell? ⟨w.heap.size, 3, none⟩ = some (.slice A n c) ∧ w'.cell? ⟨w.heap.size + 1, 3, none⟩ = some (.slice (some ⟨gb, ob, none⟩) m c')) (by kernel_rfl) (⟨a3, b3⟩) (fun hHeld => ?_)
              refine take_F (i := 0) (d := some 42) (v := ?_) (by kernel_rfl) (by kernel_rfl) rfl rfl (by kernel_rfl) (by kernel_rfl) (by kernel_rfl) (fun _ _ _ h => h) (Or.inl ⟨by rfl, ?_⟩) (by assumption) ?_
              rotate_left
              · (intro w hSw; (try dsimp only at hSw); go_simp; (try rw [if_neg (by omega)]); (try (with_reducible rfl)))
              simp only [Act.put, List.setIfInBounds_toArray, List.set_cons_zero, List.set_cons_succ]
              refine take_L [2,1] (i := 1) (d := some 43) (v := ?_) (by kernel_rfl) (by kernel_rfl) (by kernel_rfl) (by kernel_rfl) rfl rfl (by kernel_rfl) (by kernel_rfl) (by kernel_rfl) (fun _ _ _ h => h) (Or.inl ⟨by rfl, ?_⟩) (by assumption) ?_
              rotate_left
              · (intro w hSw; (try dsimp only at hSw); go_simp; (try rw [if_neg (by omega)]); (try (with_reducible rfl)))
              simp only [Act.put, List.setIfInBounds_toArray, List.set_cons_zero, List.set_cons_succ]
              refine take_F (i := 3) (d := some 45) (v := ?_) (by kernel_rfl) (by kernel_rfl) rfl rfl (by kernel_rfl) (by kernel_rfl) (by kernel_rfl) (fun _ _ _ h => h) (Or.inl ⟨by rfl, ?_⟩) (by assumption) ?_
              rotate_left
              · (intro w hSw; (try dsimp only at hSw); go_simp; (try rw [if_neg (by omega)]); (try (with_reducible rfl)))
              simp only [Act.put, List.setIfInBounds_toArray, List.set_cons_zero, List.set_cons_succ]
              refine take_L [4] (i := 4) (d := some 46) (v := ?_) (by kernel_rfl) (by kernel_rfl) (by kernel_rfl) (by kernel_rfl) rfl rfl (by kernel_rfl) (by kernel_rfl) (by kernel_rfl) (fun _ _ _ h => h) (Or.inl ⟨by rfl, ?_⟩) (by assumption) ?_
              rotate_left
              · (intro w hSw; (try dsimp only at hSw); go_simp; (try rw [if_neg (by omega)]); (try (with_reducible rfl)))
              simp only [Act.put, List.setIfInBounds_toArray, List.set_cons_zero, List.set_cons_succ]
              refine call_L (i := 2) (d := (some 44)) rfl rfl (by kernel_rfl) (fun Kq hKq => ?_)
              go_simp
              go_at_call 49
              refine (HCp.out _ JN3.out.bel.drew).mono ?_; rintro e w4 ⟨v4, rfl, ho4, hb4⟩
              have JN4 := Lib.hid (JN3.out.below (below_undrew hb4))
              obtain ⟨A4, c4, rfl⟩ := own_sl ho4
              have Ho4 := Lib.hid ho4
              have hz4 : w3.heap.size ≤ w4.heap.size := hb4.size
              have Hcc4 := Lib.hid (HCc.out w4 JN4.out.bel)
              have HHq4 := Lib.hid ((hb4.block q hqs).trans HHq.out)
              clear ho4 hb4 a0 a1 a2 a3 az b0 b1 b2 b3
              obtain ⟨a0, a1, a2, a3, az⟩ := JN4.out.cA
              obtain ⟨b0, b1, b2, b3⟩ := JN4.out.cB
              (try go_wp2_with fail)
              refine hKq.out _ _ (⟨a3, b3⟩) (fun hHeld => ?_)
              clear hKq Kq
              (try simp only [Act.put, List.setIfInBounds_toArray, List.set_cons_zero, List.set_cons_succ])
              refine late_L (i := 5) (d := (some 47)) (by kernel_rfl) rfl rfl (by kernel_rfl) (fun Kq hKq => ?_)
              refine step_apr 24 2 _ 1 8 Tryd.underlying24 infoD rfl (by omega) _ _ (by rfl) (by rfl) w3.heap.size _ n _ (by rfl) Ho4.out gb ob m c' (tab m g) (by rfl) HLm.out Hcc4.out (tab_one m g) Hmx.out Hby.out hz4 ?_; intro v5 w5 ho5 hg5
              have hba5 := below_apd (Below.refl w3.heap.size w4) Ho4.out hg5 (Nat.le_refl _) hz4
              have JN5 := Lib.hid (JN4.out.below' hba5 JN3.out.sz)
              have hHq5 := (hba5.block q hqs).trans HHq4.out
              obtain ⟨A5, c5, rfl⟩ := own_sl ho5
              rw [← catA_tab] at ho5
              have Ho5 := Lib.hid (ownsRow_le (ownsRow_setCell_below ho5 (a := ⟨q, 3, none⟩) hqs (.slice A5 (n + m) c5)) JN3.out.sz)
              have hs6 : Below q w5 (w5.setCell ⟨q, 3, none⟩ (.slice A5 (n + m) c5)) := (Below.refl q w5).setCell (p := ⟨q, 3, none⟩) (Nat.le_refl _) _
              have JN6 := Lib.hid (JN5.out.below' hs6 hq3)
              have HH6 := Lib.hid (heap_setCell_same w5 q 3 _ _ (.slice A5 (n + m) c5) hHq5)
              obtain ⟨_, _, _, j3, jz⟩ := blk4 hHq5
              have j4 := jz 3
              clear ho5 hg5 a0 a1 a2 a3 az b0 b1 b2 b3 hs6 hba5 hHq5 jz
              refine hKq.out _ _ ?_
              clear hKq Kq
              simp only [Act.put, List.setIfInBounds_toArray]
              refine late_L (i := 6) (d := (some 48)) (by kernel_rfl) rfl rfl (by kernel_rfl) (fun Kq hKq => ?_)
              go_simp
              refine hKq.out _ _ ?_
              clear hKq Kq
              refine late_L (i := 7) (d := none) (by kernel_rfl) rfl rfl (by kernel_rfl) (fun Kq hKq => ?_)
              go_simp
              refine hKq.out _ _ ?_
              clear hKq Kq
              refine done_L (by kernel_rfl) ?_ _
              refine NoPanic.normal ?_
              go_upto_region 7 with (fail)
              generalize w5.setCell ⟨q, 3, none⟩ (.slice A5 (n + m) c5) = w6 at *
              clear j3 j4
              go_wp2_with fail
              refine (HV3.out q _ _ _ Ho5.out HH6.out).mono ?_; rintro e w7 ⟨rfl, d7, hd7⟩
              have hb7 : Below w6.heap.size w6 w7 := by rw [hd7]; exact below_drewN (Below.refl _ _) d7
              have JN7 := Lib.hid (JN6.out.below hb7)
              have Ho7 := Lib.hid (own_below Ho5.out hb7)
              have HH7 := Lib.hid ((hb7.block q (Array.getElem?_eq_some_iff.1 HH6.out).1).trans HH6.out)
              clear hb7 hd7
              obtain ⟨a0, a1, a2, a3, az⟩ := blk4 HH7.out
              clear az
              obtain ⟨⟨z0, z1, z2, z3⟩, y0, y1, y2, y3⟩ := JN7.out.cZ
              have HD := Lib.hid (JN7.out.fin (.string s) (.int .i64 a) (.int .i64 b) (.slice A5 (n + m) c5))
              have HOw := Lib.hid (ownsRow_le (set4_own Ho7.out (show w.heap.size + 2 < w.heap.size + 3 by omega) (.string s) (.int .i64 a) (.int .i64 b) (.slice A5 (n + m) c5)) (show w.heap.size ≤ w.heap.size + 3 by omega))
              go_wp2_with fail
              obtain ⟨⟨k0, k1, k2, k3⟩, hbz⟩ := HD.out
              refine bodyPost_ret (v := .tuple #[.agg #[.string s, .int .i64 a, .int .i64 b, .slice A5 (n + m) c5], .int .i64 0]) (by simp [results, Tryd.results18, go_sem, k0, k1, k2, k3]) rfl ?_
              exact RetJn.yes (h := ⟨s, a, b, n + m⟩) HC.out HOw.out hbz
          · have HC := Lib.hid (jp_st (s' := s) (b' := b) HK1.out HK2.out (fun h => haa h.2.2))
            obtain ⟨P, hPe⟩ : ∃ P, (n : Int) * b = P := ⟨_, rfl⟩
            rw [hPe] at HAr hP0 hP1 haa
            have hwp : IntKind.i64.wrap ((n : Int) * b) = P := by rw [hPe]; exact IntWalk.i64_in _ (by omega)
            have hwa : IntKind.i64.wrap (a + P) = a + P := IntWalk.i64_in _ (by omega)
            have haa' : (a' == a + P) = false := beq_eq_false_iff_ne.2 haa
            clear hPe
            go_enter Tryd.func18, Tryd.ntmps18
            go_wp2_with fail
            obtain ⟨w0, hw0⟩ : ∃ z, (((w.alloc (.cells #[.string s, .int .i64 a, .int .i64 b, .slice A n c] 26)).alloc (.cells #[.string s, .int .i64 a', .int .i64 b, .slice A' m c'] 26)).alloc (.cells #[.string ⟨#[]⟩, .int .i64 0, .int .i64 0, .slice none 0 0] 26)) = z := ⟨_, rfl⟩
            have JN0 := Lib.hid (JnW.new w (.string s) (.int .i64 a) (.int .i64 b) (.slice A n c) (.string s) (.int .i64 a') (.int .i64 b) (.slice A' m c'))
            rw [hw0] at JN0
            (try rw [hw0])
            clear hw0
            refine (HV1.out _ JN0.out).mono ?_; rintro e w1 ⟨rfl, dd1, hd1⟩
            have JN1 := Lib.hid (JN0.out.below (show Below _ _ w1 by rw [hd1]; exact below_drewN (Below.refl _ _) dd1))
            clear hd1
            obtain ⟨a0, a1, a2, a3, az⟩ := JN1.out.cA
            obtain ⟨b0, b1, b2, b3⟩ := JN1.out.cB
            go_wp2_with fail
            refine (HV2.out _ JN1.out).mono ?_; rintro e w2 ⟨rfl, dd2, hd2⟩
            have JN2 := Lib.hid (JN1.out.below (show Below _ _ w2 by rw [hd2]; exact below_drewN (Below.refl _ _) dd2))
            clear hd2
            clear a0 a1 a2 a3 az b0 b1 b2 b3
            obtain ⟨a0, a1, a2, a3, az⟩ := JN2.out.cA
            obtain ⟨b0, b1, b2, b3⟩ := JN2.out.cB
            obtain ⟨⟨z0, z1, z2, z3⟩, y0, y1, y2, y3⟩ := JN2.out.cZ
            have HD := Lib.hid (JN2.out.fin (.string ⟨#[]⟩) (.int .i64 0) (.int .i64 0) (.slice none 0 0))
            go_wp2_with fail
            obtain ⟨⟨k0, k1, k2, k3⟩, hbz⟩ := HD.out
            refine bodyPost_ret (v := .tuple #[.agg #[.string ⟨#[]⟩, .int .i64 0, .int .i64 0, .slice none 0 0], .int .i64 6]) (by simp [results, Tryd.results18, go_sem, k0, k1, k2, k3]) rfl ?_
            first | exact RetJn.no HC.out (by decide) hbz | exact RetJn.no HC.out (by decide) hbz.drew | exact RetJn.no HC.out (by decide) (below_drewN hbz _)
        · have HC := Lib.hid (jp_st (s' := s) HK1.out HK2.out (fun h => hbb h.2.1))
          have hbb' : (b == b') = false := beq_eq_false_iff_ne.2 hbb
          go_enter Tryd.func18, Tryd.ntmps18
          go_wp2_with fail
          obtain ⟨w0, hw0⟩ : ∃ z, (((w.alloc (.cells #[.string s, .int .i64 a, .int .i64 b, .slice A n c] 26)).alloc (.cells #[.string s, .int .i64 a', .int .i64 b', .slice A' m c'] 26)).alloc (.cells #[.string ⟨#[]⟩, .int .i64 0, .int .i64 0, .slice none 0 0] 26)) = z := ⟨_, rfl⟩
          have JN0 := Lib.hid (JnW.new w (.string s) (.int .i64 a) (.int .i64 b) (.slice A n c) (.string s) (.int .i64 a') (.int .i64 b') (.slice A' m c'))
          rw [hw0] at JN0
          (try rw [hw0])
          clear hw0
          refine (HV1.out _ JN0.out).mono ?_; rintro e w1 ⟨rfl, dd1, hd1⟩
          have JN1 := Lib.hid (JN0.out.below (show Below _ _ w1 by rw [hd1]; exact below_drewN (Below.refl _ _) dd1))
          clear hd1
          obtain ⟨a0, a1, a2, a3, az⟩ := JN1.out.cA
          obtain ⟨b0, b1, b2, b3⟩ := JN1.out.cB
          go_wp2_with fail
          refine (HV2.out _ JN1.out).mono ?_; rintro e w2 ⟨rfl, dd2, hd2⟩
          have JN2 := Lib.hid (JN1.out.below (show Below _ _ w2 by rw [hd2]; exact below_drewN (Below.refl _ _) dd2))
          clear hd2
          clear a0 a1 a2 a3 az b0 b1 b2 b3
          obtain ⟨a0, a1, a2, a3, az⟩ := JN2.out.cA
          obtain ⟨b0, b1, b2, b3⟩ := JN2.out.cB
          obtain ⟨⟨z0, z1, z2, z3⟩, y0, y1, y2, y3⟩ := JN2.out.cZ
          have HD := Lib.hid (JN2.out.fin (.string ⟨#[]⟩) (.int .i64 0) (.int .i64 0) (.slice none 0 0))
          go_wp2_with fail
          obtain ⟨⟨k0, k1, k2, k3⟩, hbz⟩ := HD.out
          refine bodyPost_ret (v := .tuple #[.agg #[.string ⟨#[]⟩, .int .i64 0, .int .i64 0, .slice none 0 0], .int .i64 6]) (by simp [results, Tryd.results18, go_sem, k0, k1, k2, k3]) rfl ?_
          first | exact RetJn.no HC.out (by decide) hbz | exact RetJn.no HC.out (by decide) hbz.drew | exact RetJn.no HC.out (by decide) (below_drewN hbz _)
      · have HC := Lib.hid (jp_st HK1.out HK2.out (fun h => hss h.1))
        have hss' := ba_neq hss
        go_enter Tryd.func18, Tryd.ntmps18
        go_wp2_with fail
        obtain ⟨w0, hw0⟩ : ∃ z, (((w.alloc (.cells #[.string s, .int .i64 a, .int .i64 b, .slice A n c] 26)).alloc (.cells #[.string s', .int .i64 a', .int .i64 b', .slice A' m c'] 26)).alloc (.cells #[.string ⟨#[]⟩, .int .i64 0, .int .i64 0, .slice none 0 0] 26)) = z := ⟨_, rfl⟩
        have JN0 := Lib.hid (JnW.new w (.string s) (.int .i64 a) (.int .i64 b) (.slice A n c) (.string s') (.int .i64 a') (.int .i64 b') (.slice A' m c'))
        rw [hw0] at JN0
        (try rw [hw0])
        clear hw0
        refine (HV1.out _ JN0.out).mono ?_; rintro e w1 ⟨rfl, dd1, hd1⟩
        have JN1 := Lib.hid (JN0.out.below (show Below _ _ w1 by rw [hd1]; exact below_drewN (Below.refl _ _) dd1))
        clear hd1
        obtain ⟨a0, a1, a2, a3, az⟩ := JN1.out.cA
        obtain ⟨b0, b1, b2, b3⟩ := JN1.out.cB
        go_wp2_with fail
        refine (HV2.out _ JN1.out).mono ?_; rintro e w2 ⟨rfl, dd2, hd2⟩
        have JN2 := Lib.hid (JN1.out.below (show Below _ _ w2 by rw [hd2]; exact below_drewN (Below.refl _ _) dd2))
        clear hd2
        clear a0 a1 a2 a3 az b0 b1 b2 b3
        obtain ⟨a0, a1, a2, a3, az⟩ := JN2.out.cA
        obtain ⟨b0, b1, b2, b3⟩ := JN2.out.cB
        obtain ⟨⟨z0, z1, z2, z3⟩, y0, y1, y2, y3⟩ := JN2.out.cZ
        have HD := Lib.hid (JN2.out.fin (.string ⟨#[]⟩) (.int .i64 0) (.int .i64 0) (.slice none 0 0))
        go_wp2_with fail
        obtain ⟨⟨k0, k1, k2, k3⟩, hbz⟩ := HD.out
        refine bodyPost_ret (v := .tuple #[.agg #[.string ⟨#[]⟩, .int .i64 0, .int .i64 0, .slice none 0 0], .int .i64 6]) (by simp [results, Tryd.results18, go_sem, k0, k1, k2, k3]) rfl ?_
        first | exact RetJn.no HC.out (by decide) hbz | exact RetJn.no HC.out (by decide) hbz.drew | exact RetJn.no HC.out (by decide) (below_drewN hbz _)
end Go.Proofs.YtnhngccfbnnpoaaDoor
