/- Merged texts: Pa16, Pa10, Lib4. -/
import Derived.Test.YtnhngccfbnnpoaaDoorGCardPages8
import Derived.Test.YtnhngccfbnnpoaaDoorGCardPages7
import Derived.Test.YtnhngccfbnnpoaaDoorGCardPages1
/- Printed pages, part 16: draws of two pages (gen_pa16.py). -/
namespace Go.Proofs.YtnhngccfbnnpoaaDoor
open Go.RowKit Go.Joins
attribute [local go_sem ↓] Go.wp_at_zero Go.wp_at_succ

theorem put4A_block {w : World} {r q : Nat} {o : Obj} (h : w.heap[q]? = some o) (hq : q ≠ r) (a b c d : Value) : (put4A w r a b c d).heap[q]? = some o :=
  (Below.heap_setCell _ ⟨r, 3, none⟩ d q hq).trans ((Below.heap_setCell _ ⟨r, 2, none⟩ c q hq).trans ((Below.heap_setCell _ ⟨r, 1, none⟩ b q hq).trans ((Below.heap_setCell w ⟨r, 0, none⟩ a q hq).trans h)))
/-- two results, the source, what has turned -/
structure D2 (w wr : World) (B gs K : Nat) (bs : List UInt8) : Prop where
  z1 : wr.heap[w.heap.size]? = some (.cells #[.string ⟨#[]⟩, .int .i64 0, .int .i64 0, .slice none 0 0] 26 (0, 0))
  z2 : wr.heap[w.heap.size + 1]? = some (.cells #[.string ⟨#[]⟩, .int .i64 0, .int .i64 0, .slice none 0 0] 26 (0, 0))
  src : SrcAt wr B gs K bs
  bel : Below w.heap.size w wr
  gq : w.heap.size + 2 ≤ gs
  gl : gs < wr.heap.size
theorem D2.below {w wr w' : World} {B gs K : Nat} {bs : List UInt8} (h : D2 w wr B gs K bs) (hb : Below wr.heap.size wr w') : D2 w w' B gs K bs := by
  have h1 := h.gq
  have h2 := h.gl
  exact ⟨(hb.block _ (by omega)).trans h.z1, (hb.block _ (by omega)).trans h.z2, h.src.below hb, h.bel.trans (hb.mono (by omega)), h1, Nat.lt_of_lt_of_le h2 hb.size⟩
theorem D2.draw {w wr w' : World} {B gs K K' : Nat} {bs : List UInt8} (h : D2 w wr B gs K bs) (hs : SrcAt w' B gs K' bs) (hg : wr.grownBy w' (some gs)) : D2 w w' B gs K' bs := by
  have h1 := h.gq
  have h2 := h.gl
  exact ⟨(hg.block _ (by omega) (fun e => by injection e; omega)).trans h.z1, (hg.block _ (by omega) (fun e => by injection e; omega)).trans h.z2, hs, h.bel.grown hg h.bel.size (fun k hk => by cases hk; omega), h1, Nat.lt_of_lt_of_le h2 hg.size⟩
theorem D2.set {w wr : World} {B gs K q i : Nat} {bs : List UInt8} (h : D2 w wr B gs K bs) (hq : w.heap.size + 2 ≤ q) (hqg : gs < q) (u : Value) : D2 w (wr.setCell ⟨q, i, none⟩ u) B gs K bs :=
  ⟨(Below.heap_setCell wr ⟨q, i, none⟩ u _ (by show w.heap.size ≠ q; omega)).trans h.z1, (Below.heap_setCell wr ⟨q, i, none⟩ u _ (by show w.heap.size + 1 ≠ q; omega)).trans h.z2, h.src.grown (grown_set wr q i u) (fun z hz => by cases hz; exact hqg), h.bel.setCell (p := ⟨q, i, none⟩) (by show w.heap.size ≤ q; omega) u, h.gq, by have := h.gl; simpa using this⟩
/-- a page in a block, its row the call's own -/
structure PgB (w wr : World) (gs q : Nat) (s : ByteArray) (a b : Int) (v rv : Value) (n : Nat) (f : Nat → Int) : Prop where
  blk : wr.heap[q]? = some (.cells #[.string s, .int .i64 a, .int .i64 b, v] 26 (0, 0))
  row : wr.ownsRow (gs + 1) 2 1 rv n (tab n f)
  qg : gs < q
theorem PgB.lt {w wr : World} {gs q : Nat} {s : ByteArray} {a b : Int} {v rv : Value} {n : Nat} {f : Nat → Int} (h : PgB w wr gs q s a b v rv n f) : q < wr.heap.size := (Array.getElem?_eq_some_iff.1 h.blk).1
theorem PgB.below {w wr w' : World} {gs q : Nat} {s : ByteArray} {a b : Int} {v rv : Value} {n : Nat} {f : Nat → Int} (h : PgB w wr gs q s a b v rv n f) (hb : Below wr.heap.size wr w') : PgB w w' gs q s a b v rv n f :=
  ⟨(hb.block _ h.lt).trans h.blk, own_below h.row hb, h.qg⟩
theorem PgB.draw {w wr w' : World} {gs q : Nat} {s : ByteArray} {a b : Int} {v rv : Value} {n : Nat} {f : Nat → Int} (h : PgB w wr gs q s a b v rv n f) (hg : wr.grownBy w' (some gs)) : PgB w w' gs q s a b v rv n f :=
  ⟨(hg.block _ h.lt (fun e => by injection e; have := h.qg; omega)).trans h.blk, own_gs h.row hg (Nat.lt_succ_self _), h.qg⟩
/-- another block is written -/
theorem PgB.set {w wr : World} {gs q x i : Nat} {s : ByteArray} {a b : Int} {v rv : Value} {n : Nat} {f : Nat → Int} (h : PgB w wr gs q s a b v rv n f) (hq : q ≠ x) (hx : rv.ownBlock ≠ some x) (u : Value) : PgB w (wr.setCell ⟨x, i, none⟩ u) gs q s a b v rv n f :=
  ⟨(Below.heap_setCell wr ⟨x, i, none⟩ u q hq).trans h.blk, ownsRow_setCell_other h.row (a := ⟨x, i, none⟩) hx u, h.qg⟩
theorem PgB.ne {w wr : World} {gs q x : Nat} {s : ByteArray} {a b : Int} {v rv : Value} {n : Nat} {f : Nat → Int} (h : PgB w wr gs q s a b v rv n f) {cs : Array Value} (hx : wr.heap[x]? = some (.cells cs 26 (0, 0))) : rv.ownBlock ≠ some x := own_ne h.row hx (by decide)
/-- a field is written -/
theorem PgB.field {w wr : World} {gs q : Nat} {s : ByteArray} {a b : Int} {v rv : Value} {n : Nat} {f : Nat → Int} (h : PgB w wr gs q s a b v rv n f) (i : Nat) (u : Value) {s' : ByteArray} {a' b' : Int} {v' : Value}
    (he : (#[Value.string s, .int .i64 a, .int .i64 b, v].setIfInBounds i u) = #[Value.string s', .int .i64 a', .int .i64 b', v']) : PgB w (wr.setCell ⟨q, i, none⟩ u) gs q s' a' b' v' rv n f :=
  ⟨by have := heap_setCell_same wr q i _ _ u h.blk; rw [he] at this; exact this, ownsRow_setCell_other h.row (a := ⟨q, i, none⟩) (h.ne h.blk) u, h.qg⟩
theorem PgB.cells {w wr : World} {gs q : Nat} {s : ByteArray} {a b : Int} {v rv : Value} {n : Nat} {f : Nat → Int} (h : PgB w wr gs q s a b v rv n f) :
    (wr.cell? ⟨q, 0, none⟩ = some (.string s) ∧ wr.cell? ⟨q, 1, none⟩ = some (.int .i64 a) ∧ wr.cell? ⟨q, 2, none⟩ = some (.int .i64 b) ∧ wr.cell? ⟨q, 3, none⟩ = some v) ∧ (wr.frozen? ⟨q, 0, none⟩ = false ∧ wr.frozen? ⟨q, 1, none⟩ = false ∧ wr.frozen? ⟨q, 2, none⟩ = false ∧ wr.frozen? ⟨q, 3, none⟩ = false) := by
  obtain ⟨h0, h1, h2, h3, h4⟩ := blk4 h.blk
  exact ⟨⟨h0, h1, h2, h3⟩, h4 0, h4 1, h4 2, h4 3⟩
theorem PgB.fin {w wr : World} {gs q x : Nat} {s : ByteArray} {a b : Int} {v rv : Value} {n : Nat} {f : Nat → Int} (h : PgB w wr gs q s a b v rv n f) (hx : x < gs) (y0 y1 y2 y3 : Value) : PgB w (put4A wr x y0 y1 y2 y3) gs q s a b v rv n f :=
  ⟨put4A_block h.blk (by have := h.qg; omega) _ _ _ _, set4_own h.row (by omega) y0 y1 y2 y3, h.qg⟩
def RetDPP (w : World) (e : Ending) (w' : World) : Prop :=
  ∃ s a b v n f s' a' b' v' m g, e = .returned (.tuple #[.agg #[.string s, .int .i64 a, .int .i64 b, v], .agg #[.string s', .int .i64 a', .int .i64 b', v']]) ∧ s.size ≤ 1000 ∧ s'.size ≤ 1000 ∧ n ≤ 61 ∧ m ≤ 61 ∧ Rd w' w'.heap.size v n 1 (tab n f) ∧ Rd w' w'.heap.size v' m 1 (tab m g) ∧ Below w.heap.size w w'
theorem RetDPP.dr {w w' : World} {e : Ending} (h : RetDPP w e w') : RetDPP w e w'.drew := by
  obtain ⟨s, a, b, v, n, f, s', a', b', v', m, g, he, h1, h2, h3, h4, h5, h6, h7⟩ := h
  exact ⟨s, a, b, v, n, f, s', a', b', v', m, g, he, h1, h2, h3, h4, h5.drewN 1, h6.drewN 1, h7.drew⟩
theorem dr4 {w : World} {q : Nat} {x0 x1 x2 x3 : Value} (h : w.cell? ⟨q, 0, none⟩ = some x0 ∧ w.cell? ⟨q, 1, none⟩ = some x1 ∧ w.cell? ⟨q, 2, none⟩ = some x2 ∧ w.cell? ⟨q, 3, none⟩ = some x3) : w.drew.cell? ⟨q, 0, none⟩ = some x0 ∧ w.drew.cell? ⟨q, 1, none⟩ = some x1 ∧ w.drew.cell? ⟨q, 2, none⟩ = some x2 ∧ w.drew.cell? ⟨q, 3, none⟩ = some x3 := h
/-- both results are written -/
theorem d2_fin {w wr : World} {B gs K : Nat} {bs : List UInt8} (h : D2 w wr B gs K bs) (x0 x1 x2 x3 y0 y1 y2 y3 : Value) :
    ((wr.cell? ⟨w.heap.size, 0, none⟩ = some (.string ⟨#[]⟩) ∧ wr.cell? ⟨w.heap.size, 1, none⟩ = some (.int .i64 0) ∧ wr.cell? ⟨w.heap.size, 2, none⟩ = some (.int .i64 0) ∧ wr.cell? ⟨w.heap.size, 3, none⟩ = some (.slice none 0 0)) ∧
      (wr.frozen? ⟨w.heap.size, 0, none⟩ = false ∧ wr.frozen? ⟨w.heap.size, 1, none⟩ = false ∧ wr.frozen? ⟨w.heap.size, 2, none⟩ = false ∧ wr.frozen? ⟨w.heap.size, 3, none⟩ = false)) ∧
    (((put4A wr w.heap.size x0 x1 x2 x3).cell? ⟨w.heap.size + 1, 0, none⟩ = some (.string ⟨#[]⟩) ∧ (put4A wr w.heap.size x0 x1 x2 x3).cell? ⟨w.heap.size + 1, 1, none⟩ = some (.int .i64 0) ∧ (put4A wr w.heap.size x0 x1 x2 x3).cell? ⟨w.heap.size + 1, 2, none⟩ = some (.int .i64 0) ∧ (put4A wr w.heap.size x0 x1 x2 x3).cell? ⟨w.heap.size + 1, 3, none⟩ = some (.slice none 0 0)) ∧
      ((put4A wr w.heap.size x0 x1 x2 x3).frozen? ⟨w.heap.size + 1, 0, none⟩ = false ∧ (put4A wr w.heap.size x0 x1 x2 x3).frozen? ⟨w.heap.size + 1, 1, none⟩ = false ∧ (put4A wr w.heap.size x0 x1 x2 x3).frozen? ⟨w.heap.size + 1, 2, none⟩ = false ∧ (put4A wr w.heap.size x0 x1 x2 x3).frozen? ⟨w.heap.size + 1, 3, none⟩ = false)) ∧
    (((put4A (put4A wr w.heap.size x0 x1 x2 x3) (w.heap.size + 1) y0 y1 y2 y3).cell? ⟨w.heap.size, 0, none⟩ = some x0 ∧ (put4A (put4A wr w.heap.size x0 x1 x2 x3) (w.heap.size + 1) y0 y1 y2 y3).cell? ⟨w.heap.size, 1, none⟩ = some x1 ∧ (put4A (put4A wr w.heap.size x0 x1 x2 x3) (w.heap.size + 1) y0 y1 y2 y3).cell? ⟨w.heap.size, 2, none⟩ = some x2 ∧ (put4A (put4A wr w.heap.size x0 x1 x2 x3) (w.heap.size + 1) y0 y1 y2 y3).cell? ⟨w.heap.size, 3, none⟩ = some x3) ∧
      ((put4A (put4A wr w.heap.size x0 x1 x2 x3) (w.heap.size + 1) y0 y1 y2 y3).cell? ⟨w.heap.size + 1, 0, none⟩ = some y0 ∧ (put4A (put4A wr w.heap.size x0 x1 x2 x3) (w.heap.size + 1) y0 y1 y2 y3).cell? ⟨w.heap.size + 1, 1, none⟩ = some y1 ∧ (put4A (put4A wr w.heap.size x0 x1 x2 x3) (w.heap.size + 1) y0 y1 y2 y3).cell? ⟨w.heap.size + 1, 2, none⟩ = some y2 ∧ (put4A (put4A wr w.heap.size x0 x1 x2 x3) (w.heap.size + 1) y0 y1 y2 y3).cell? ⟨w.heap.size + 1, 3, none⟩ = some y3)) ∧
    Below w.heap.size w (put4A (put4A wr w.heap.size x0 x1 x2 x3) (w.heap.size + 1) y0 y1 y2 y3) := by
  obtain ⟨a0, a1, a2, a3, a4⟩ := blk4 h.z1
  have hz2 := put4A_block h.z2 (show w.heap.size + 1 ≠ w.heap.size by omega) x0 x1 x2 x3
  obtain ⟨b0, b1, b2, b3, b4⟩ := blk4 hz2
  have hz1 := put4A_block (set4 h.z1 x0 x1 x2 x3) (show w.heap.size ≠ w.heap.size + 1 by omega) y0 y1 y2 y3
  obtain ⟨c0, c1, c2, c3, _⟩ := blk4 hz1
  obtain ⟨d0, d1, d2, d3, _⟩ := blk4 (set4 hz2 y0 y1 y2 y3)
  exact ⟨⟨⟨a0, a1, a2, a3⟩, a4 0, a4 1, a4 2, a4 3⟩, ⟨⟨b0, b1, b2, b3⟩, b4 0, b4 1, b4 2, b4 3⟩, ⟨⟨c0, c1, c2, c3⟩, d0, d1, d2, d3⟩, set4_below (set4_below h.bel (Nat.le_refl _) x0 x1 x2 x3) (Nat.le_succ _) y0 y1 y2 y3⟩
/-- the tail of an own row, read -/
theorem rd_tl {w : World} {base g n c : Nat} {f : Nat → Int} (h : w.ownsRow base 2 1 (.slice (some ⟨g, 0, none⟩) (n + 1) c) (n + 1) (tab (n + 1) f)) (c2 : Nat) : Rd w w.heap.size (.slice (some ⟨g, 1, none⟩) n c2) n 1 (tab n (fun i => f (i + 1))) := by
  refine ⟨by rw [tab_len, Nat.mul_one], _, _, rfl, fun _ => ⟨g, 1, rfl, (h.lt g rfl).2, fun i u hu => ?_⟩⟩
  have hi : i < n := by
    rcases Nat.lt_or_ge i n with h | h
    · exact h
    · rw [List.getElem?_eq_none (by rw [tab_len]; exact h)] at hu; cases hu
  rw [tab_at _ hi] at hu
  have := (h.cellAt (i + 1) (by omega)).trans (tab_at f (show i + 1 < n + 1 by omega))
  rw [← hu, Nat.add_comm 1 i]
  exact this
theorem rd_none {w : World} {n : Nat} {f : Nat → Int} {v : Value} (hn : n = 0) (A : Option Addr) (c : Nat) (hv : v = .slice A 0 c) : Rd w w.heap.size v n 1 (tab n f) := by
  subst hn hv
  exact ⟨rfl, A, c, rfl, fun h => absurd h (by omega)⟩
set_option maxRecDepth 100000 in
set_option maxHeartbeats 6400000 in
theorem DrawSamePage_c (B : Nat) (cv : Value) (bs : List UInt8) (w : World) (h : Rd w B cv bs.length 1 (bs.map byV)) (hB : B ≤ w.heap.size) : Calls Tryd.prog 22 #[cv] w (RetDPP w) := by
  have hb1 := ((Below.refl w.heap.size w).alloc (Nat.le_refl _) (.cells #[.string ⟨#[]⟩, .int .i64 0, .int .i64 0, .slice none 0 0] 26)).alloc (by simp) (.cells #[.string ⟨#[]⟩, .int .i64 0, .int .i64 0, .slice none 0 0] 26)
  have HF := Lib.hid (l00From_any B cv bs _ (h.below (hb1.mono hB)) (Nat.le_trans hB hb1.size))
  have HZ1 := Lib.hid (heap_first4 w (.cells #[.string ⟨#[]⟩, .int .i64 0, .int .i64 0, .slice none 0 0] 26) #[.string ⟨#[]⟩, .int .i64 0, .int .i64 0, .slice none 0 0] 26)
  have HZ2 := Lib.hid (heap_second4 w (.cells #[.string ⟨#[]⟩, .int .i64 0, .int .i64 0, .slice none 0 0] 26) #[.string ⟨#[]⟩, .int .i64 0, .int .i64 0, .slice none 0 0] 26)
  have Hb1 := Lib.hid hb1
  have Hsz := Lib.hid (show ((w.alloc (.cells #[.string ⟨#[]⟩, .int .i64 0, .int .i64 0, .slice none 0 0] 26)).alloc (.cells #[.string ⟨#[]⟩, .int .i64 0, .int .i64 0, .slice none 0 0] 26)).heap.size = w.heap.size + 2 by simp)
  obtain ⟨A, c, rfl⟩ := rd_sl h
  clear h hb1
  go_enter Tryd.func22, Tryd.ntmps22
  go_wp2_with fail
  generalize (w.alloc (.cells #[.string ⟨#[]⟩, .int .i64 0, .int .i64 0, .slice none 0 0] 26)).alloc (.cells #[.string ⟨#[]⟩, .int .i64 0, .int .i64 0, .slice none 0 0] 26) = w1 at *
  refine HF.out.mono ?_; rintro e w2 ⟨rfl, hs2, hb2, hlt2⟩
  have HD2 := Lib.hid (show D2 w w2 B w1.heap.size 0 bs from ⟨(hb2.block _ (by rw [Hsz.out]; omega)).trans HZ1.out, (hb2.block _ (by rw [Hsz.out]; omega)).trans HZ2.out, hs2, Hb1.out.trans (hb2.mono Hb1.out.size), by rw [Hsz.out]; exact Nat.le_refl _, hlt2⟩)
  clear hs2 hb2 hlt2 HF HZ1 HZ2 Hb1 Hsz
  go_wp2_with fail
  generalize w1.heap.size = gs at *
  refine (l18DrawM_c 6 (by omega) (by omega) B gs 0 bs w2 HD2.out.src (by omega)).mono ?_; rintro e w3 ⟨s, a, b, v, n, f, rfl, hok, hn1, hn6, ho3, hs3, hg3⟩
  obtain ⟨gv, cv3, rfl, _, _⟩ := own_posC ho3 (by omega)
  have Hss := Lib.hid (show s.size ≤ 1000 by have := isNm_size (pgF hok).nm; omega)
  have hgl := HD2.out.gl
  have hba := (Below.refl w3.heap.size w3).alloc (Nat.le_refl _) (.cells #[.string s, .int .i64 a, .int .i64 b, .slice (some ⟨gv, 0, none⟩) n cv3] 26)
  have HD4 := Lib.hid ((HD2.out.draw hs3 hg3).below hba)
  have HA4 := Lib.hid (show PgB w (w3.alloc (.cells #[.string s, .int .i64 a, .int .i64 b, .slice (some ⟨gv, 0, none⟩) n cv3] 26)) gs w3.heap.size s a b (.slice (some ⟨gv, 0, none⟩) n cv3) (.slice (some ⟨gv, 0, none⟩) n cv3) n f from ⟨heap_alloc_new w3 _, ownsRow_le (own_below ho3 hba) hgl, Nat.lt_of_lt_of_le hgl hg3.size⟩)
  obtain ⟨hbb, hb4⟩ : 1 ≤ b ∧ b ≤ 1000 := (pgF hok).b0
  clear ho3 hs3 hg3 hba HD2 hok
  go_upto_region 3 with (fail)
  generalize w3.alloc (.cells #[.string s, .int .i64 a, .int .i64 b, .slice (some ⟨gv, 0, none⟩) n cv3] 26) = w4 at *
  generalize w3.heap.size = qa at *
  obtain ⟨⟨p0, p1, p2, p3⟩, -⟩ := HA4.out.cells
  have hba := (Below.refl w4.heap.size w4).alloc (Nat.le_refl _) (.cells #[.string s, .int .i64 a, .int .i64 b, .slice (some ⟨gv, 0, none⟩) n cv3] 26)
  have HD5 := Lib.hid (HD4.out.below hba)
  have HA5 := Lib.hid (HA4.out.below hba)
  have HB5 := Lib.hid (heap_alloc_new w4 (.cells #[.string s, .int .i64 a, .int .i64 b, .slice (some ⟨gv, 0, none⟩) n cv3] 26))
  have hqb := HD4.out.gl
  have hqab := HA4.out.lt
  clear hba HD4 HA4
  go_upto_region 4 with (fail)
  generalize w4.alloc (.cells #[.string s, .int .i64 a, .int .i64 b, .slice (some ⟨gv, 0, none⟩) n cv3] 26) = w5 at *
  generalize w4.heap.size = qb at *
  clear p0 p1 p2 p3
  obtain ⟨⟨p0, p1, p2, p3⟩, -⟩ := HA5.out.cells
  have HO := Lib.hid (l00Own_c w5.heap.size (.slice (some ⟨gv, 0, none⟩) n cv3) n f w5 (Rd.of_own HA5.out.row) (Nat.le_refl _) (by omega) (by omega))
  have hqb5 : qb < w5.heap.size := (Array.getElem?_eq_some_iff.1 HB5.out).1
  go_wp2_with fail
  refine HO.out.mono ?_; rintro e w6 ⟨v6, rfl, ho6, hb6⟩
  obtain ⟨gw, cv6, rfl, hcv6, _⟩ := own_posC ho6 (by omega)
  have HD6 := Lib.hid (HD5.out.below hb6)
  have HA6 := Lib.hid (HA5.out.below hb6)
  have hB6 := (hb6.block qb hqb5).trans HB5.out
  obtain ⟨_, _, _, r3, rz⟩ := blk4 hB6
  have r4 := rz 3
  have hgw := (ho6.lt gw rfl).1
  have hg5 := HD5.out.gl
  have HB6 := Lib.hid (show PgB w w6 gs qb s a b (.slice (some ⟨gv, 0, none⟩) n cv3) (.slice (some ⟨gw, 0, none⟩) n cv6) n f from ⟨hB6, ownsRow_le ho6 hg5, hqb⟩)
  have HB7 := Lib.hid (HB6.out.field 3 (.slice (some ⟨gw, 0, none⟩) n cv6) (s' := s) (a' := a) (b' := b) rfl)
  have hgvl := (HA5.out.row.lt gv rfl).2
  have HA7 := Lib.hid (HA6.out.set (x := qb) (i := 3) (by omega) (HA6.out.ne hB6) (.slice (some ⟨gw, 0, none⟩) n cv6))
  have HD7 := Lib.hid (HD6.out.set (q := qb) (i := 3) (by have := HD6.out.gq; omega) (by omega) (.slice (some ⟨gw, 0, none⟩) n cv6))
  have hvw : gv ≠ gw := by omega
  clear ho6 hb6 hB6 HB5 HD5 HA5 HD6 HA6 HB6 rz p0 p1 p2 p3 HO
  go_upto_region 5 with (fail)
  generalize w6.setCell ⟨qb, 3, none⟩ (.slice (some ⟨gw, 0, none⟩) n cv6) = w7 at *
  clear r3 r4
  go_wp2_with fail
  refine (pick_any B gs _ bs 4 w7 HD7.out.src (by omega)).mono ?_; rintro e w8 ⟨x, rfl, _, hs8, hg8⟩
  have HD8 := Lib.hid (HD7.out.draw hs8 hg8)
  have HA8 := Lib.hid (HA7.out.draw hg8)
  have HB8 := Lib.hid (HB7.out.draw hg8)
  clear hs8 hg8 HD7 HA7 HB7
  have hn61 : n ≤ 61 := by omega
  by_cases c0 : x = 0
  · subst c0
    obtain ⟨⟨p0, p1, p2, p3⟩, -⟩ := HB8.out.cells
    obtain ⟨u0, u1⟩ := own_cellD HB8.out.row 0 (by omega)
    have hn0 : (0 : Int) < (n : Int) := by omega
    obtain ⟨y, hy⟩ : ∃ y, IntKind.i64.wrap (f 0 + 1) = y := ⟨_, rfl⟩
    have h1 := (HB8.out.row.stored 0 (.int .i64 y)).1
    rw [tab_set] at h1
    have hneT : (Value.slice (some ⟨gw, 0, none⟩) n cv6).ownBlock ≠ some qb := HB8.out.ne HB8.out.blk
    have hq1 : qb ≠ gw := fun e => hneT (by rw [e]; rfl)
    have hneA : (Value.slice (some ⟨gw, 0, none⟩) n cv6).ownBlock ≠ some qa := HB8.out.ne HA8.out.blk
    have hq2 : qa ≠ gw := fun e => hneA (by rw [e]; rfl)
    have HB9 := Lib.hid (show PgB w (w8.setCell ⟨gw, 0, none⟩ (.int .i64 y)) gs qb s a b (.slice (some ⟨gw, 0, none⟩) n cv6) (.slice (some ⟨gw, 0, none⟩) n cv6) n (put f 0 y) from ⟨(Below.heap_setCell w8 ⟨gw, 0, none⟩ _ qb hq1).trans HB8.out.blk, h1, hqb⟩)
    have HA9 := Lib.hid (HA8.out.set (x := gw) (i := 0) hq2 (by simp [Value.ownBlock]; omega) (.int .i64 y))
    have HD9 := Lib.hid (HD8.out.set (q := gw) (i := 0) (by have := HD8.out.gq; omega) (by omega) (.int .i64 y))
    clear h1 hneT hneA hq1 hq2 HB8 HA8 HD8
    generalize f 0 = y0 at *
    go_upto_region 12 with (fail)
    generalize w8.setCell ⟨gw, 0, none⟩ (.int .i64 y) = w9 at *
    clear p0 p1 p2 p3 u0 u1 hy
    go_upto_region 12 with (fail)
    obtain ⟨⟨⟨z0, z1, z2, z3⟩, y0, y1, y2, y3⟩, ⟨⟨u0, u1, u2, u3⟩, t0, t1, t2, t3⟩, HFc, hbz⟩ := d2_fin HD9.out (.string s) (.int .i64 a) (.int .i64 b) (.slice (some ⟨gv, 0, none⟩) n cv3) (.string s) (.int .i64 a) (.int .i64 b) (.slice (some ⟨gw, 0, none⟩) n cv6)
    have HFC := Lib.hid HFc
    have hgq := HD9.out.gq
    have HA1 := Lib.hid (HA9.out.fin (show w.heap.size < gs by omega) (.string s) (.int .i64 a) (.int .i64 b) (.slice (some ⟨gv, 0, none⟩) n cv3))
    have HB1 := Lib.hid (HB9.out.fin (show w.heap.size < gs by omega) (.string s) (.int .i64 a) (.int .i64 b) (.slice (some ⟨gv, 0, none⟩) n cv3))
    have HA2 := Lib.hid (HA1.out.fin (show w.heap.size + 1 < gs by omega) (.string s) (.int .i64 a) (.int .i64 b) (.slice (some ⟨gw, 0, none⟩) n cv6))
    have HB2 := Lib.hid (HB1.out.fin (show w.heap.size + 1 < gs by omega) (.string s) (.int .i64 a) (.int .i64 b) (.slice (some ⟨gw, 0, none⟩) n cv6))
    have HBZ := Lib.hid hbz
    have sA := HA9.out.cells.1
    have sB := HB9.out.cells.1
    have sA1 := HA1.out.cells.1
    have sB1 := HB1.out.cells.1
    have sA2 := HA2.out.cells.1
    have sB2 := HB2.out.cells.1
    clear HFc hbz
    refine wp_region_noPanic ?_
    refine wp_region_L [] (fun w' => (w'.cell? ⟨qa, 0, none⟩ = some (.string s) ∧ w'.cell? ⟨qa, 1, none⟩ = some (.int .i64 a) ∧ w'.cell? ⟨qa, 2, none⟩ = some (.int .i64 b) ∧ w'.cell? ⟨qa, 3, none⟩ = some (.slice (some ⟨gv, 0, none⟩) n cv3)) ∧ (w'.cell? ⟨qb, 0, none⟩ = some (.string s) ∧ w'.cell? ⟨qb, 1, none⟩ = some (.int .i64 a) ∧ w'.cell? ⟨qb, 2, none⟩ = some (.int .i64 b) ∧ w'.cell? ⟨qb, 3, none⟩ = some (.slice (some ⟨gw, 0, none⟩) n cv6))) (by kernel_rfl) (⟨sA, sB⟩) (fun hHeld => ?_)
    refine take_L [0] (i := 0) (d := some 38) (v := ?_) (by kernel_rfl) (by kernel_rfl) (by kernel_rfl) (by kernel_rfl) rfl rfl (by kernel_rfl) (by kernel_rfl) (by kernel_rfl) (fun _ _ _ h => h) (Or.inl ⟨by rfl, ?_⟩) (by assumption) ?_
    rotate_left
    · (intro w hSw; (try dsimp only at hSw); go_simp; (try rw [if_neg (by omega)]); (try (with_reducible rfl)))
    simp only [Act.put, List.setIfInBounds_toArray, List.set_cons_zero, List.set_cons_succ]
    refine take_L [1] (i := 1) (d := some 39) (v := ?_) (by kernel_rfl) (by kernel_rfl) (by kernel_rfl) (by kernel_rfl) rfl rfl (by kernel_rfl) (by kernel_rfl) (by kernel_rfl) (fun _ _ _ h => h) (Or.inl ⟨by rfl, ?_⟩) (by assumption) ?_
    rotate_left
    · (intro w hSw; (try dsimp only at hSw); go_simp; (try rw [if_neg (by omega)]); (try (with_reducible rfl)))
    simp only [Act.put, List.setIfInBounds_toArray, List.set_cons_zero, List.set_cons_succ]
    refine call_L (i := 2) (d := none) rfl rfl (by kernel_rfl) (fun Kq hKq => ?_)
    go_simp
    refine hKq.out _ _ (⟨dr4 sA1, dr4 sB1⟩) (fun hHeld => ?_)
    clear hKq Kq
    (try simp only [Act.put, List.setIfInBounds_toArray, List.set_cons_zero, List.set_cons_succ])
    refine call_L (i := 3) (d := none) rfl rfl (by kernel_rfl) (fun Kq hKq => ?_)
    go_simp
    refine hKq.out _ _ (⟨dr4 sA2, dr4 sB2⟩) (fun hHeld => ?_)
    clear hKq Kq
    (try simp only [Act.put, List.setIfInBounds_toArray, List.set_cons_zero, List.set_cons_succ])
    refine done_L (by kernel_rfl) ?_ _
    refine NoPanic.normal ?_
    (try go_wp2_with fail)
    obtain ⟨⟨k0, k1, k2, k3⟩, m0, m1, m2, m3⟩ := HFC.out
    exact bodyPost_ret (v := .tuple #[.agg #[.string s, .int .i64 a, .int .i64 b, .slice (some ⟨gv, 0, none⟩) n cv3], .agg #[.string s, .int .i64 a, .int .i64 b, .slice (some ⟨gw, 0, none⟩) n cv6]]) (by simp [results, Tryd.results22, go_sem, k0, k1, k2, k3, m0, m1, m2, m3]) rfl (RetDPP.dr ⟨s, a, b, _, n, f, s, a, b, _, n, put _ 0 y, rfl, Hss.out, Hss.out, hn61, hn61, Rd.of_own HA2.out.row, Rd.of_own HB2.out.row, HBZ.out⟩)
  · have e0 : (x == 0) = false := by simp [c0]
    by_cases c1 : x = 1
    · subst c1
      obtain ⟨⟨p0, p1, p2, p3⟩, y0, y1, y2, y3⟩ := HB8.out.cells
      have HB9 := Lib.hid (HB8.out.field 2 (.int .i64 (b + 1)) (s' := s) (a' := a) (b' := b + 1) (v' := .slice (some ⟨gw, 0, none⟩) n cv6) rfl)
      have HA9 := Lib.hid (HA8.out.set (x := qb) (i := 2) (by omega) (HA8.out.ne HB8.out.blk) (.int .i64 (b + 1)))
      have HD9 := Lib.hid (HD8.out.set (q := qb) (i := 2) (by have := HD8.out.gq; omega) (by omega) (.int .i64 (b + 1)))
      clear HB8 HA8 HD8
      go_upto_region 12 with (fail)
      generalize w8.setCell ⟨qb, 2, none⟩ (.int .i64 (b + 1)) = w9 at *
      clear p0 p1 p2 p3 y0 y1 y2 y3
      generalize b + 1 = b1 at *
      go_upto_region 12 with (fail)
      obtain ⟨⟨⟨z0, z1, z2, z3⟩, y0, y1, y2, y3⟩, ⟨⟨u0, u1, u2, u3⟩, t0, t1, t2, t3⟩, HFc, hbz⟩ := d2_fin HD9.out (.string s) (.int .i64 a) (.int .i64 b) (.slice (some ⟨gv, 0, none⟩) n cv3) (.string s) (.int .i64 a) (.int .i64 b1) (.slice (some ⟨gw, 0, none⟩) n cv6)
      have HFC := Lib.hid HFc
      have hgq := HD9.out.gq
      have HA1 := Lib.hid (HA9.out.fin (show w.heap.size < gs by omega) (.string s) (.int .i64 a) (.int .i64 b) (.slice (some ⟨gv, 0, none⟩) n cv3))
      have HB1 := Lib.hid (HB9.out.fin (show w.heap.size < gs by omega) (.string s) (.int .i64 a) (.int .i64 b) (.slice (some ⟨gv, 0, none⟩) n cv3))
      have HA2 := Lib.hid (HA1.out.fin (show w.heap.size + 1 < gs by omega) (.string s) (.int .i64 a) (.int .i64 b1) (.slice (some ⟨gw, 0, none⟩) n cv6))
      have HB2 := Lib.hid (HB1.out.fin (show w.heap.size + 1 < gs by omega) (.string s) (.int .i64 a) (.int .i64 b1) (.slice (some ⟨gw, 0, none⟩) n cv6))
      have HBZ := Lib.hid hbz
      have sA := HA9.out.cells.1
      have sB := HB9.out.cells.1
      have sA1 := HA1.out.cells.1
      have sB1 := HB1.out.cells.1
      have sA2 := HA2.out.cells.1
      have sB2 := HB2.out.cells.1
      clear HFc hbz
      refine wp_region_noPanic ?_
      refine wp_region_L [] (fun w' => (w'.cell? ⟨qa, 0, none⟩ = some (.string s) ∧ w'.cell? ⟨qa, 1, none⟩ = some (.int .i64 a) ∧ w'.cell? ⟨qa, 2, none⟩ = some (.int .i64 b) ∧ w'.cell? ⟨qa, 3, none⟩ = some (.slice (some ⟨gv, 0, none⟩) n cv3)) ∧ (w'.cell? ⟨qb, 0, none⟩ = some (.string s) ∧ w'.cell? ⟨qb, 1, none⟩ = some (.int .i64 a) ∧ w'.cell? ⟨qb, 2, none⟩ = some (.int .i64 b1) ∧ w'.cell? ⟨qb, 3, none⟩ = some (.slice (some ⟨gw, 0, none⟩) n cv6))) (by kernel_rfl) (⟨sA, sB⟩) (fun hHeld => ?_)
      refine take_L [0] (i := 0) (d := some 38) (v := ?_) (by kernel_rfl) (by kernel_rfl) (by kernel_rfl) (by kernel_rfl) rfl rfl (by kernel_rfl) (by kernel_rfl) (by kernel_rfl) (fun _ _ _ h => h) (Or.inl ⟨by rfl, ?_⟩) (by assumption) ?_
      rotate_left
      · (intro w hSw; (try dsimp only at hSw); go_simp; (try rw [if_neg (by omega)]); (try (with_reducible rfl)))
      simp only [Act.put, List.setIfInBounds_toArray, List.set_cons_zero, List.set_cons_succ]
      refine take_L [1] (i := 1) (d := some 39) (v := ?_) (by kernel_rfl) (by kernel_rfl) (by kernel_rfl) (by kernel_rfl) rfl rfl (by kernel_rfl) (by kernel_rfl) (by kernel_rfl) (fun _ _ _ h => h) (Or.inl ⟨by rfl, ?_⟩) (by assumption) ?_
      rotate_left
      · (intro w hSw; (try dsimp only at hSw); go_simp; (try rw [if_neg (by omega)]); (try (with_reducible rfl)))
      simp only [Act.put, List.setIfInBounds_toArray, List.set_cons_zero, List.set_cons_succ]
      refine call_L (i := 2) (d := none) rfl rfl (by kernel_rfl) (fun Kq hKq => ?_)
      go_simp
      refine hKq.out _ _ (⟨dr4 sA1, dr4 sB1⟩) (fun hHeld => ?_)
      clear hKq Kq
      (try simp only [Act.put, List.setIfInBounds_toArray, List.set_cons_zero, List.set_cons_succ])
      refine call_L (i := 3) (d := none) rfl rfl (by kernel_rfl) (fun Kq hKq => ?_)
      go_simp
      refine hKq.out _ _ (⟨dr4 sA2, dr4 sB2⟩) (fun hHeld => ?_)
      clear hKq Kq
      (try simp only [Act.put, List.setIfInBounds_toArray, List.set_cons_zero, List.set_cons_succ])
      refine done_L (by kernel_rfl) ?_ _
      refine NoPanic.normal ?_
      (try go_wp2_with fail)
      obtain ⟨⟨k0, k1, k2, k3⟩, m0, m1, m2, m3⟩ := HFC.out
      exact bodyPost_ret (v := .tuple #[.agg #[.string s, .int .i64 a, .int .i64 b, .slice (some ⟨gv, 0, none⟩) n cv3], .agg #[.string s, .int .i64 a, .int .i64 b1, .slice (some ⟨gw, 0, none⟩) n cv6]]) (by simp [results, Tryd.results22, go_sem, k0, k1, k2, k3, m0, m1, m2, m3]) rfl (RetDPP.dr ⟨s, a, b, _, n, f, s, a, b1, _, n, f, rfl, Hss.out, Hss.out, hn61, hn61, Rd.of_own HA2.out.row, Rd.of_own HB2.out.row, HBZ.out⟩)
    · have e1 : (x == 1) = false := by simp [c1]
      by_cases c2 : x = 2
      · subst c2
        obtain ⟨⟨p0, p1, p2, p3⟩, y0, y1, y2, y3⟩ := HB8.out.cells
        obtain ⟨k, rfl⟩ : ∃ k, n = k + 1 := ⟨n - 1, by omega⟩
        obtain ⟨v9, hv9⟩ : ∃ v9, v9 = (if cv6 = 1 then Value.slice (some ⟨gw, 0, none⟩) k (cv6 - 1) else Value.slice (some ⟨gw, 1, none⟩) k (cv6 - 1)) := ⟨_, rfl⟩
        have HB9 := Lib.hid (HB8.out.field 3 v9 (s' := s) (a' := a) (b' := b) (v' := v9) rfl)
        have HA9 := Lib.hid (HA8.out.set (x := qb) (i := 3) (by omega) (HA8.out.ne HB8.out.blk) v9)
        have HD9 := Lib.hid (HD8.out.set (q := qb) (i := 3) (by have := HD8.out.gq; omega) (by omega) v9)
        have hc1 : (1 : Int) ≤ ((k + 1 : Nat) : Int) := by omega
        have hcp : ((k + 1 : Nat) : Int) ≤ (cv6 : Int) := by omega
        clear HB8 HA8 HD8
        by_cases h1 : cv6 = 1
        · subst h1
          obtain rfl : k = 0 := by omega
          rw [if_pos rfl] at hv9
          subst hv9
          go_upto_region 12 with (fail)
          generalize w8.setCell ⟨qb, 3, none⟩ (.slice (some ⟨gw, 0, none⟩) 0 (1 - 1)) = w9 at *
          clear p0 p1 p2 p3 y0 y1 y2 y3
          go_upto_region 12 with (fail)
          obtain ⟨⟨⟨z0, z1, z2, z3⟩, y0, y1, y2, y3⟩, ⟨⟨u0, u1, u2, u3⟩, t0, t1, t2, t3⟩, HFc, hbz⟩ := d2_fin HD9.out (.string s) (.int .i64 a) (.int .i64 b) (.slice (some ⟨gv, 0, none⟩) (0 + 1) cv3) (.string s) (.int .i64 a) (.int .i64 b) (.slice (some ⟨gw, 0, none⟩) 0 (1 - 1))
          have HFC := Lib.hid HFc
          have hgq := HD9.out.gq
          have HA1 := Lib.hid (HA9.out.fin (show w.heap.size < gs by omega) (.string s) (.int .i64 a) (.int .i64 b) (.slice (some ⟨gv, 0, none⟩) (0 + 1) cv3))
          have HB1 := Lib.hid (HB9.out.fin (show w.heap.size < gs by omega) (.string s) (.int .i64 a) (.int .i64 b) (.slice (some ⟨gv, 0, none⟩) (0 + 1) cv3))
          have HA2 := Lib.hid (HA1.out.fin (show w.heap.size + 1 < gs by omega) (.string s) (.int .i64 a) (.int .i64 b) (.slice (some ⟨gw, 0, none⟩) 0 (1 - 1)))
          have HB2 := Lib.hid (HB1.out.fin (show w.heap.size + 1 < gs by omega) (.string s) (.int .i64 a) (.int .i64 b) (.slice (some ⟨gw, 0, none⟩) 0 (1 - 1)))
          have HBZ := Lib.hid hbz
          have sA := HA9.out.cells.1
          have sB := HB9.out.cells.1
          have sA1 := HA1.out.cells.1
          have sB1 := HB1.out.cells.1
          have sA2 := HA2.out.cells.1
          have sB2 := HB2.out.cells.1
          clear HFc hbz
          refine wp_region_noPanic ?_
          refine wp_region_L [] (fun w' => (w'.cell? ⟨qa, 0, none⟩ = some (.string s) ∧ w'.cell? ⟨qa, 1, none⟩ = some (.int .i64 a) ∧ w'.cell? ⟨qa, 2, none⟩ = some (.int .i64 b) ∧ w'.cell? ⟨qa, 3, none⟩ = some (.slice (some ⟨gv, 0, none⟩) (0 + 1) cv3)) ∧ (w'.cell? ⟨qb, 0, none⟩ = some (.string s) ∧ w'.cell? ⟨qb, 1, none⟩ = some (.int .i64 a) ∧ w'.cell? ⟨qb, 2, none⟩ = some (.int .i64 b) ∧ w'.cell? ⟨qb, 3, none⟩ = some (.slice (some ⟨gw, 0, none⟩) 0 (1 - 1)))) (by kernel_rfl) (⟨sA, sB⟩) (fun hHeld => ?_)
          refine take_L [0] (i := 0) (d := some 38) (v := ?_) (by kernel_rfl) (by kernel_rfl) (by kernel_rfl) (by kernel_rfl) rfl rfl (by kernel_rfl) (by kernel_rfl) (by kernel_rfl) (fun _ _ _ h => h) (Or.inl ⟨by rfl, ?_⟩) (by assumption) ?_
          rotate_left
          · (intro w hSw; (try dsimp only at hSw); go_simp; (try rw [if_neg (by omega)]); (try (with_reducible rfl)))
          simp only [Act.put, List.setIfInBounds_toArray, List.set_cons_zero, List.set_cons_succ]
          refine take_L [1] (i := 1) (d := some 39) (v := ?_) (by kernel_rfl) (by kernel_rfl) (by kernel_rfl) (by kernel_rfl) rfl rfl (by kernel_rfl) (by kernel_rfl) (by kernel_rfl) (fun _ _ _ h => h) (Or.inl ⟨by rfl, ?_⟩) (by assumption) ?_
          rotate_left
          · (intro w hSw; (try dsimp only at hSw); go_simp; (try rw [if_neg (by omega)]); (try (with_reducible rfl)))
          simp only [Act.put, List.setIfInBounds_toArray, List.set_cons_zero, List.set_cons_succ]
          refine call_L (i := 2) (d := none) rfl rfl (by kernel_rfl) (fun Kq hKq => ?_)
          go_simp
          refine hKq.out _ _ (⟨dr4 sA1, dr4 sB1⟩) (fun hHeld => ?_)
          clear hKq Kq
          (try simp only [Act.put, List.setIfInBounds_toArray, List.set_cons_zero, List.set_cons_succ])
          refine call_L (i := 3) (d := none) rfl rfl (by kernel_rfl) (fun Kq hKq => ?_)
          go_simp
          refine hKq.out _ _ (⟨dr4 sA2, dr4 sB2⟩) (fun hHeld => ?_)
          clear hKq Kq
          (try simp only [Act.put, List.setIfInBounds_toArray, List.set_cons_zero, List.set_cons_succ])
          refine done_L (by kernel_rfl) ?_ _
          refine NoPanic.normal ?_
          (try go_wp2_with fail)
          obtain ⟨⟨k0, k1, k2, k3⟩, m0, m1, m2, m3⟩ := HFC.out
          exact bodyPost_ret (v := .tuple #[.agg #[.string s, .int .i64 a, .int .i64 b, .slice (some ⟨gv, 0, none⟩) (0 + 1) cv3], .agg #[.string s, .int .i64 a, .int .i64 b, .slice (some ⟨gw, 0, none⟩) 0 (1 - 1)]]) (by simp [results, Tryd.results22, go_sem, k0, k1, k2, k3, m0, m1, m2, m3]) rfl (RetDPP.dr ⟨s, a, b, _, 0 + 1, f, s, a, b, _, 0, f, rfl, Hss.out, Hss.out, hn61, by omega, Rd.of_own HA2.out.row, rd_none rfl _ _ rfl, HBZ.out⟩)
        · rw [if_neg h1] at hv9
          subst hv9
          have h1' : ¬ (cv6 : Int) = 1 := by omega
          go_upto_region 12 with (fail)
          generalize w8.setCell ⟨qb, 3, none⟩ (.slice (some ⟨gw, 1, none⟩) k (cv6 - 1)) = w9 at *
          clear p0 p1 p2 p3 y0 y1 y2 y3
          go_upto_region 12 with (fail)
          obtain ⟨⟨⟨z0, z1, z2, z3⟩, y0, y1, y2, y3⟩, ⟨⟨u0, u1, u2, u3⟩, t0, t1, t2, t3⟩, HFc, hbz⟩ := d2_fin HD9.out (.string s) (.int .i64 a) (.int .i64 b) (.slice (some ⟨gv, 0, none⟩) (k + 1) cv3) (.string s) (.int .i64 a) (.int .i64 b) (.slice (some ⟨gw, 1, none⟩) k (cv6 - 1))
          have HFC := Lib.hid HFc
          have hgq := HD9.out.gq
          have HA1 := Lib.hid (HA9.out.fin (show w.heap.size < gs by omega) (.string s) (.int .i64 a) (.int .i64 b) (.slice (some ⟨gv, 0, none⟩) (k + 1) cv3))
          have HB1 := Lib.hid (HB9.out.fin (show w.heap.size < gs by omega) (.string s) (.int .i64 a) (.int .i64 b) (.slice (some ⟨gv, 0, none⟩) (k + 1) cv3))
          have HA2 := Lib.hid (HA1.out.fin (show w.heap.size + 1 < gs by omega) (.string s) (.int .i64 a) (.int .i64 b) (.slice (some ⟨gw, 1, none⟩) k (cv6 - 1)))
          have HB2 := Lib.hid (HB1.out.fin (show w.heap.size + 1 < gs by omega) (.string s) (.int .i64 a) (.int .i64 b) (.slice (some ⟨gw, 1, none⟩) k (cv6 - 1)))
          have HBZ := Lib.hid hbz
          have sA := HA9.out.cells.1
          have sB := HB9.out.cells.1
          have sA1 := HA1.out.cells.1
          have sB1 := HB1.out.cells.1
          have sA2 := HA2.out.cells.1
          have sB2 := HB2.out.cells.1
          clear HFc hbz
          refine wp_region_noPanic ?_
          refine wp_region_L [] (fun w' => (w'.cell? ⟨qa, 0, none⟩ = some (.string s) ∧ w'.cell? ⟨qa, 1, none⟩ = some (.int .i64 a) ∧ w'.cell? ⟨qa, 2, none⟩ = some (.int .i64 b) ∧ w'.cell? ⟨qa, 3, none⟩ = some (.slice (some ⟨gv, 0, none⟩) (k + 1) cv3)) ∧ (w'.cell? ⟨qb, 0, none⟩ = some (.string s) ∧ w'.cell? ⟨qb, 1, none⟩ = some (.int .i64 a) ∧ w'.cell? ⟨qb, 2, none⟩ = some (.int .i64 b) ∧ w'.cell? ⟨qb, 3, none⟩ = some (.slice (some ⟨gw, 1, none⟩) k (cv6 - 1)))) (by kernel_rfl) (⟨sA, sB⟩) (fun hHeld => ?_)
          refine take_L [0] (i := 0) (d := some 38) (v := ?_) (by kernel_rfl) (by kernel_rfl) (by kernel_rfl) (by kernel_rfl) rfl rfl (by kernel_rfl) (by kernel_rfl) (by kernel_rfl) (fun _ _ _ h => h) (Or.inl ⟨by rfl, ?_⟩) (by assumption) ?_
          rotate_left
          · (intro w hSw; (try dsimp only at hSw); go_simp; (try rw [if_neg (by omega)]); (try (with_reducible rfl)))
          simp only [Act.put, List.setIfInBounds_toArray, List.set_cons_zero, List.set_cons_succ]
          refine take_L [1] (i := 1) (d := some 39) (v := ?_) (by kernel_rfl) (by kernel_rfl) (by kernel_rfl) (by kernel_rfl) rfl rfl (by kernel_rfl) (by kernel_rfl) (by kernel_rfl) (fun _ _ _ h => h) (Or.inl ⟨by rfl, ?_⟩) (by assumption) ?_
          rotate_left
          · (intro w hSw; (try dsimp only at hSw); go_simp; (try rw [if_neg (by omega)]); (try (with_reducible rfl)))
          simp only [Act.put, List.setIfInBounds_toArray, List.set_cons_zero, List.set_cons_succ]
          refine call_L (i := 2) (d := none) rfl rfl (by kernel_rfl) (fun Kq hKq => ?_)
          go_simp
          refine hKq.out _ _ (⟨dr4 sA1, dr4 sB1⟩) (fun hHeld => ?_)
          clear hKq Kq
          (try simp only [Act.put, List.setIfInBounds_toArray, List.set_cons_zero, List.set_cons_succ])
          refine call_L (i := 3) (d := none) rfl rfl (by kernel_rfl) (fun Kq hKq => ?_)
          go_simp
          refine hKq.out _ _ (⟨dr4 sA2, dr4 sB2⟩) (fun hHeld => ?_)
          clear hKq Kq
          (try simp only [Act.put, List.setIfInBounds_toArray, List.set_cons_zero, List.set_cons_succ])
          refine done_L (by kernel_rfl) ?_ _
          refine NoPanic.normal ?_
          (try go_wp2_with fail)
          obtain ⟨⟨k0, k1, k2, k3⟩, m0, m1, m2, m3⟩ := HFC.out
          exact bodyPost_ret (v := .tuple #[.agg #[.string s, .int .i64 a, .int .i64 b, .slice (some ⟨gv, 0, none⟩) (k + 1) cv3], .agg #[.string s, .int .i64 a, .int .i64 b, .slice (some ⟨gw, 1, none⟩) k (cv6 - 1)]]) (by simp [results, Tryd.results22, go_sem, k0, k1, k2, k3, m0, m1, m2, m3]) rfl (RetDPP.dr ⟨s, a, b, _, k + 1, f, s, a, b, _, k, _, rfl, Hss.out, Hss.out, hn61, by omega, Rd.of_own HA2.out.row, rd_tl HB2.out.row _, HBZ.out⟩)
      · have e2 : (x == 2) = false := by simp [c2]
        go_upto_region 12 with (fail)
        obtain ⟨⟨⟨z0, z1, z2, z3⟩, y0, y1, y2, y3⟩, ⟨⟨u0, u1, u2, u3⟩, t0, t1, t2, t3⟩, HFc, hbz⟩ := d2_fin HD8.out (.string s) (.int .i64 a) (.int .i64 b) (.slice (some ⟨gv, 0, none⟩) n cv3) (.string s) (.int .i64 a) (.int .i64 b) (.slice (some ⟨gw, 0, none⟩) n cv6)
        have HFC := Lib.hid HFc
        have hgq := HD8.out.gq
        have HA1 := Lib.hid (HA8.out.fin (show w.heap.size < gs by omega) (.string s) (.int .i64 a) (.int .i64 b) (.slice (some ⟨gv, 0, none⟩) n cv3))
        have HB1 := Lib.hid (HB8.out.fin (show w.heap.size < gs by omega) (.string s) (.int .i64 a) (.int .i64 b) (.slice (some ⟨gv, 0, none⟩) n cv3))
        have HA2 := Lib.hid (HA1.out.fin (show w.heap.size + 1 < gs by omega) (.string s) (.int .i64 a) (.int .i64 b) (.slice (some ⟨gw, 0, none⟩) n cv6))
        have HB2 := Lib.hid (HB1.out.fin (show w.heap.size + 1 < gs by omega) (.string s) (.int .i64 a) (.int .i64 b) (.slice (some ⟨gw, 0, none⟩) n cv6))
        have HBZ := Lib.hid hbz
        have sA := HA8.out.cells.1
        have sB := HB8.out.cells.1
        have sA1 := HA1.out.cells.1
        have sB1 := HB1.out.cells.1
        have sA2 := HA2.out.cells.1
        have sB2 := HB2.out.cells.1
        clear HFc hbz
        refine wp_region_noPanic ?_
        refine wp_region_L [] (fun w' => (w'.cell? ⟨qa, 0, none⟩ = some (.string s) ∧ w'.cell? ⟨qa, 1, none⟩ = some (.int .i64 a) ∧ w'.cell? ⟨qa, 2, none⟩ = some (.int .i64 b) ∧ w'.cell? ⟨qa, 3, none⟩ = some (.slice (some ⟨gv, 0, none⟩) n cv3)) ∧ (w'.cell? ⟨qb, 0, none⟩ = some (.string s) ∧ w'.cell? ⟨qb, 1, none⟩ = some (.int .i64 a) ∧ w'.cell? ⟨qb, 2, none⟩ = some (.int .i64 b) ∧ w'.cell? ⟨qb, 3, none⟩ = some (.slice (some ⟨gw, 0, none⟩) n cv6))) (by kernel_rfl) (⟨sA, sB⟩) (fun hHeld => ?_)
        refine take_L [0] (i := 0) (d := some 38) (v := ?_) (by kernel_rfl) (by kernel_rfl) (by kernel_rfl) (by kernel_rfl) rfl rfl (by kernel_rfl) (by kernel_rfl) (by kernel_rfl) (fun _ _ _ h => h) (Or.inl ⟨by rfl, ?_⟩) (by assumption) ?_
        rotate_left
        · (intro w hSw; (try dsimp only at hSw); go_simp; (try rw [if_neg (by omega)]); (try (with_reducible rfl)))
        simp only [Act.put, List.setIfInBounds_toArray, List.set_cons_zero, List.set_cons_succ]
        refine take_L [1] (i := 1) (d := some 39) (v := ?_) (by kernel_rfl) (by kernel_rfl) (by kernel_rfl) (by kernel_rfl) rfl rfl (by kernel_rfl) (by kernel_rfl) (by kernel_rfl) (fun _ _ _ h => h) (Or.inl ⟨by rfl, ?_⟩) (by assumption) ?_
        rotate_left
        · (intro w hSw; (try dsimp only at hSw); go_simp; (try rw [if_neg (by omega)]); (try (with_reducible rfl)))
        simp only [Act.put, List.setIfInBounds_toArray, List.set_cons_zero, List.set_cons_succ]
        refine call_L (i := 2) (d := none) rfl rfl (by kernel_rfl) (fun Kq hKq => ?_)
        go_simp
        refine hKq.out _ _ (⟨dr4 sA1, dr4 sB1⟩) (fun hHeld => ?_)
        clear hKq Kq
        (try simp only [Act.put, List.setIfInBounds_toArray, List.set_cons_zero, List.set_cons_succ])
        refine call_L (i := 3) (d := none) rfl rfl (by kernel_rfl) (fun Kq hKq => ?_)
        go_simp
        refine hKq.out _ _ (⟨dr4 sA2, dr4 sB2⟩) (fun hHeld => ?_)
        clear hKq Kq
        (try simp only [Act.put, List.setIfInBounds_toArray, List.set_cons_zero, List.set_cons_succ])
        refine done_L (by kernel_rfl) ?_ _
        refine NoPanic.normal ?_
        (try go_wp2_with fail)
        obtain ⟨⟨k0, k1, k2, k3⟩, m0, m1, m2, m3⟩ := HFC.out
        exact bodyPost_ret (v := .tuple #[.agg #[.string s, .int .i64 a, .int .i64 b, .slice (some ⟨gv, 0, none⟩) n cv3], .agg #[.string s, .int .i64 a, .int .i64 b, .slice (some ⟨gw, 0, none⟩) n cv6]]) (by simp [results, Tryd.results22, go_sem, k0, k1, k2, k3, m0, m1, m2, m3]) rfl (RetDPP.dr ⟨s, a, b, _, n, f, s, a, b, _, n, f, rfl, Hss.out, Hss.out, hn61, hn61, Rd.of_own HA2.out.row, Rd.of_own HB2.out.row, HBZ.out⟩)
set_option maxRecDepth 100000 in
set_option maxHeartbeats 6400000 in
theorem DrawJoinPages_c (B : Nat) (cv : Value) (bs : List UInt8) (w : World) (h : Rd w B cv bs.length 1 (bs.map byV)) (hB : B ≤ w.heap.size) : Calls Tryd.prog 16 #[cv] w (RetDPP w) := by
  have hb1 := ((Below.refl w.heap.size w).alloc (Nat.le_refl _) (.cells #[.string ⟨#[]⟩, .int .i64 0, .int .i64 0, .slice none 0 0] 26)).alloc (by simp) (.cells #[.string ⟨#[]⟩, .int .i64 0, .int .i64 0, .slice none 0 0] 26)
  have HF := Lib.hid (l00From_any B cv bs _ (h.below (hb1.mono hB)) (Nat.le_trans hB hb1.size))
  have HZ1 := Lib.hid (heap_first4 w (.cells #[.string ⟨#[]⟩, .int .i64 0, .int .i64 0, .slice none 0 0] 26) #[.string ⟨#[]⟩, .int .i64 0, .int .i64 0, .slice none 0 0] 26)
  have HZ2 := Lib.hid (heap_second4 w (.cells #[.string ⟨#[]⟩, .int .i64 0, .int .i64 0, .slice none 0 0] 26) #[.string ⟨#[]⟩, .int .i64 0, .int .i64 0, .slice none 0 0] 26)
  have Hb1 := Lib.hid hb1
  have Hsz := Lib.hid (show ((w.alloc (.cells #[.string ⟨#[]⟩, .int .i64 0, .int .i64 0, .slice none 0 0] 26)).alloc (.cells #[.string ⟨#[]⟩, .int .i64 0, .int .i64 0, .slice none 0 0] 26)).heap.size = w.heap.size + 2 by simp)
  obtain ⟨A, c, rfl⟩ := rd_sl h
  clear h hb1
  go_enter Tryd.func16, Tryd.ntmps16
  go_wp2_with fail
  generalize (w.alloc (.cells #[.string ⟨#[]⟩, .int .i64 0, .int .i64 0, .slice none 0 0] 26)).alloc (.cells #[.string ⟨#[]⟩, .int .i64 0, .int .i64 0, .slice none 0 0] 26) = w1 at *
  refine HF.out.mono ?_; rintro e w2 ⟨rfl, hs2, hb2, hlt2⟩
  have HD2 := Lib.hid (show D2 w w2 B w1.heap.size 0 bs from ⟨(hb2.block _ (by rw [Hsz.out]; omega)).trans HZ1.out, (hb2.block _ (by rw [Hsz.out]; omega)).trans HZ2.out, hs2, Hb1.out.trans (hb2.mono Hb1.out.size), by rw [Hsz.out]; exact Nat.le_refl _, hlt2⟩)
  clear hs2 hb2 hlt2 HF HZ1 HZ2 Hb1 Hsz
  go_wp2_with fail
  generalize w1.heap.size = gs at *
  refine (l18Bent_c B gs 0 bs w2 HD2.out.src (by omega)).mono ?_; rintro e w3 ⟨s, a, b, v, n, f, rfl, hss, _, hn61, ho3, hs3, hg3⟩
  obtain ⟨A3, c3, rfl⟩ := own_sl ho3
  have Hss := Lib.hid hss
  have hgl := HD2.out.gl
  have hba := (Below.refl w3.heap.size w3).alloc (Nat.le_refl _) (.cells #[.string s, .int .i64 a, .int .i64 b, .slice A3 n c3] 26)
  have HD4 := Lib.hid ((HD2.out.draw hs3 hg3).below hba)
  have HA4 := Lib.hid (show PgB w (w3.alloc (.cells #[.string s, .int .i64 a, .int .i64 b, .slice A3 n c3] 26)) gs w3.heap.size s a b (.slice A3 n c3) (.slice A3 n c3) n f from ⟨heap_alloc_new w3 _, ownsRow_le (own_below ho3 hba) hgl, Nat.lt_of_lt_of_le hgl hg3.size⟩)
  clear ho3 hs3 hg3 hba HD2 hss
  go_upto_region 3 with (fail)
  generalize w3.alloc (.cells #[.string s, .int .i64 a, .int .i64 b, .slice A3 n c3] 26) = w4 at *
  generalize w3.heap.size = qa at *
  go_wp2_with fail
  refine (l18DrawM_c 50 (by omega) (by omega) B gs _ bs w4 HD4.out.src (by omega)).mono ?_; rintro e w5 ⟨s', a', b', v', m, g, rfl, hok, hm1, hm50, ho5, hs5, hg5⟩
  obtain ⟨A5, c5, rfl⟩ := own_sl ho5
  have Hss' := Lib.hid (show s'.size ≤ 1000 by have := isNm_size (pgF hok).nm; omega)
  have hgl4 := HD4.out.gl
  have hqa4 := HA4.out.lt
  have hba := (Below.refl w5.heap.size w5).alloc (Nat.le_refl _) ((.cells #[.string s', .int .i64 a', .int .i64 b', .slice A5 m c5] 26))
  have HD6 := Lib.hid ((HD4.out.draw hs5 hg5).below hba)
  have HA6 := Lib.hid ((HA4.out.draw hg5).below hba)
  have HB6 := Lib.hid (show PgB w (w5.alloc ((.cells #[.string s', .int .i64 a', .int .i64 b', .slice A5 m c5] 26))) gs w5.heap.size s' a' b' (.slice A5 m c5) (.slice A5 m c5) m g from ⟨heap_alloc_new w5 _, ownsRow_le (own_below ho5 hba) hgl4, Nat.lt_of_lt_of_le hgl4 hg5.size⟩)
  have hqab : qa < w5.heap.size := Nat.lt_of_lt_of_le hqa4 hg5.size
  clear ho5 hs5 hg5 hba HD4 HA4 hok
  go_upto_region 4 with (fail)
  generalize w5.alloc ((.cells #[.string s', .int .i64 a', .int .i64 b', .slice A5 m c5] 26)) = w6 at *
  generalize w5.heap.size = qb at *
  have HV := Lib.hid (l18Ok_c qa w6.heap.size s a b A3 n c3 f w6 (by have := Hss.out; omega) HA6.out.cells.1.1 HA6.out.cells.1.2.1 HA6.out.cells.1.2.2.1 HA6.out.cells.1.2.2.2 (Rd.of_own HA6.out.row) (by omega))
  have hm61 : m ≤ 61 := by omega
  cases hok : pgOk s.data.toList a b n f with
  | false =>
    rw [hok] at HV
    clear hok
    go_wp2_with fail
    refine HV.out.mono ?_; rintro e w7 ⟨rfl, d, hd⟩
    have hb7 : Below w6.heap.size w6 w7 := by rw [hd]; exact below_drewN (Below.refl _ _) d
    have HD7 := Lib.hid (HD6.out.below hb7)
    have HA7 := Lib.hid (HA6.out.below hb7)
    have HB7 := Lib.hid (HB6.out.below hb7)
    clear hb7 hd HD6 HA6 HB6 HV
    go_upto_region 8 with (fail)
    obtain ⟨⟨⟨z0, z1, z2, z3⟩, y0, y1, y2, y3⟩, ⟨⟨u0, u1, u2, u3⟩, t0, t1, t2, t3⟩, HFc, hbz⟩ := d2_fin HD7.out (.string s) (.int .i64 a) (.int .i64 b) (.slice A3 n c3) (.string s') (.int .i64 a') (.int .i64 b') (.slice A5 m c5)
    have HFC := Lib.hid HFc
    have hgq := HD7.out.gq
    have HA1 := Lib.hid (HA7.out.fin (show w.heap.size < gs by omega) (.string s) (.int .i64 a) (.int .i64 b) (.slice A3 n c3))
    have HB1 := Lib.hid (HB7.out.fin (show w.heap.size < gs by omega) (.string s) (.int .i64 a) (.int .i64 b) (.slice A3 n c3))
    have HA2 := Lib.hid (HA1.out.fin (show w.heap.size + 1 < gs by omega) (.string s') (.int .i64 a') (.int .i64 b') (.slice A5 m c5))
    have HB2 := Lib.hid (HB1.out.fin (show w.heap.size + 1 < gs by omega) (.string s') (.int .i64 a') (.int .i64 b') (.slice A5 m c5))
    have HBZ := Lib.hid hbz
    have sA := HA7.out.cells.1
    have sB := HB7.out.cells.1
    have sA1 := HA1.out.cells.1
    have sB1 := HB1.out.cells.1
    have sA2 := HA2.out.cells.1
    have sB2 := HB2.out.cells.1
    clear HFc hbz
    refine wp_region_noPanic ?_
    refine wp_region_L [] (fun w' => (w'.cell? ⟨qa, 0, none⟩ = some (.string s) ∧ w'.cell? ⟨qa, 1, none⟩ = some (.int .i64 a) ∧ w'.cell? ⟨qa, 2, none⟩ = some (.int .i64 b) ∧ w'.cell? ⟨qa, 3, none⟩ = some (.slice A3 n c3)) ∧ (w'.cell? ⟨qb, 0, none⟩ = some (.string s') ∧ w'.cell? ⟨qb, 1, none⟩ = some (.int .i64 a') ∧ w'.cell? ⟨qb, 2, none⟩ = some (.int .i64 b') ∧ w'.cell? ⟨qb, 3, none⟩ = some (.slice A5 m c5))) (by kernel_rfl) (⟨sA, sB⟩) (fun hHeld => ?_)
    refine take_L [0] (i := 0) (d := some 35) (v := ?_) (by kernel_rfl) (by kernel_rfl) (by kernel_rfl) (by kernel_rfl) rfl rfl (by kernel_rfl) (by kernel_rfl) (by kernel_rfl) (fun _ _ _ h => h) (Or.inl ⟨by rfl, ?_⟩) (by assumption) ?_
    rotate_left
    · (intro w hSw; (try dsimp only at hSw); go_simp; (try rw [if_neg (by omega)]); (try (with_reducible rfl)))
    simp only [Act.put, List.setIfInBounds_toArray, List.set_cons_zero, List.set_cons_succ]
    refine take_L [1] (i := 1) (d := some 36) (v := ?_) (by kernel_rfl) (by kernel_rfl) (by kernel_rfl) (by kernel_rfl) rfl rfl (by kernel_rfl) (by kernel_rfl) (by kernel_rfl) (fun _ _ _ h => h) (Or.inl ⟨by rfl, ?_⟩) (by assumption) ?_
    rotate_left
    · (intro w hSw; (try dsimp only at hSw); go_simp; (try rw [if_neg (by omega)]); (try (with_reducible rfl)))
    simp only [Act.put, List.setIfInBounds_toArray, List.set_cons_zero, List.set_cons_succ]
    refine call_L (i := 2) (d := none) rfl rfl (by kernel_rfl) (fun Kq hKq => ?_)
    go_simp
    refine hKq.out _ _ (⟨dr4 sA1, dr4 sB1⟩) (fun hHeld => ?_)
    clear hKq Kq
    (try simp only [Act.put, List.setIfInBounds_toArray, List.set_cons_zero, List.set_cons_succ])
    refine call_L (i := 3) (d := none) rfl rfl (by kernel_rfl) (fun Kq hKq => ?_)
    go_simp
    refine hKq.out _ _ (⟨dr4 sA2, dr4 sB2⟩) (fun hHeld => ?_)
    clear hKq Kq
    (try simp only [Act.put, List.setIfInBounds_toArray, List.set_cons_zero, List.set_cons_succ])
    refine done_L (by kernel_rfl) ?_ _
    refine NoPanic.normal ?_
    (try go_wp2_with fail)
    obtain ⟨⟨k0, k1, k2, k3⟩, m0, m1, m2, m3⟩ := HFC.out
    exact bodyPost_ret (v := .tuple #[.agg #[.string s, .int .i64 a, .int .i64 b, .slice A3 n c3], .agg #[.string s', .int .i64 a', .int .i64 b', .slice A5 m c5]]) (by simp [results, Tryd.results16, go_sem, k0, k1, k2, k3, m0, m1, m2, m3]) rfl (RetDPP.dr ⟨s, a, b, _, n, f, s', a', b', _, m, g, rfl, Hss.out, Hss'.out, hn61, hm61, Rd.of_own HA2.out.row, Rd.of_own HB2.out.row, HBZ.out⟩)
  | true =>
    have HG := Lib.hid (pgF hok)
    rw [hok] at HV
    clear hok
    have hn1 := HG.out.n1
    have hn60 := HG.out.n60
    obtain ⟨ha0, ha1⟩ := HG.out.a0
    obtain ⟨hb0, hb2⟩ := HG.out.b0
    go_wp2_with fail
    refine HV.out.mono ?_; rintro e w7 ⟨rfl, d, hd⟩
    have hb7 : Below w6.heap.size w6 w7 := by rw [hd]; exact below_drewN (Below.refl _ _) d
    have HD7 := Lib.hid (HD6.out.below hb7)
    have HA7 := Lib.hid (HA6.out.below hb7)
    have HB7 := Lib.hid (HB6.out.below hb7)
    clear hb7 hd HD6 HA6 HB6 HV
    go_wp2_with fail
    refine (one_any B gs _ bs 4 w7 HD7.out.src (by omega)).mono ?_; rintro e w8 ⟨y, rfl, hs8, hg8⟩
    have HD8 := Lib.hid (HD7.out.draw hs8 hg8)
    have HA8 := Lib.hid (HA7.out.draw hg8)
    have HB8 := Lib.hid (HB7.out.draw hg8)
    clear hs8 hg8 HD7 HA7 HB7
    cases y with
    | true =>
      go_upto_region 8 with (fail)
      obtain ⟨⟨⟨z0, z1, z2, z3⟩, y0, y1, y2, y3⟩, ⟨⟨u0, u1, u2, u3⟩, t0, t1, t2, t3⟩, HFc, hbz⟩ := d2_fin HD8.out (.string s) (.int .i64 a) (.int .i64 b) (.slice A3 n c3) (.string s') (.int .i64 a') (.int .i64 b') (.slice A5 m c5)
      have HFC := Lib.hid HFc
      have hgq := HD8.out.gq
      have HA1 := Lib.hid (HA8.out.fin (show w.heap.size < gs by omega) (.string s) (.int .i64 a) (.int .i64 b) (.slice A3 n c3))
      have HB1 := Lib.hid (HB8.out.fin (show w.heap.size < gs by omega) (.string s) (.int .i64 a) (.int .i64 b) (.slice A3 n c3))
      have HA2 := Lib.hid (HA1.out.fin (show w.heap.size + 1 < gs by omega) (.string s') (.int .i64 a') (.int .i64 b') (.slice A5 m c5))
      have HB2 := Lib.hid (HB1.out.fin (show w.heap.size + 1 < gs by omega) (.string s') (.int .i64 a') (.int .i64 b') (.slice A5 m c5))
      have HBZ := Lib.hid hbz
      have sA := HA8.out.cells.1
      have sB := HB8.out.cells.1
      have sA1 := HA1.out.cells.1
      have sB1 := HB1.out.cells.1
      have sA2 := HA2.out.cells.1
      have sB2 := HB2.out.cells.1
      clear HFc hbz
      refine wp_region_noPanic ?_
      refine wp_region_L [] (fun w' => (w'.cell? ⟨qa, 0, none⟩ = some (.string s) ∧ w'.cell? ⟨qa, 1, none⟩ = some (.int .i64 a) ∧ w'.cell? ⟨qa, 2, none⟩ = some (.int .i64 b) ∧ w'.cell? ⟨qa, 3, none⟩ = some (.slice A3 n c3)) ∧ (w'.cell? ⟨qb, 0, none⟩ = some (.string s') ∧ w'.cell? ⟨qb, 1, none⟩ = some (.int .i64 a') ∧ w'.cell? ⟨qb, 2, none⟩ = some (.int .i64 b') ∧ w'.cell? ⟨qb, 3, none⟩ = some (.slice A5 m c5))) (by kernel_rfl) (⟨sA, sB⟩) (fun hHeld => ?_)
      refine take_L [0] (i := 0) (d := some 35) (v := ?_) (by kernel_rfl) (by kernel_rfl) (by kernel_rfl) (by kernel_rfl) rfl rfl (by kernel_rfl) (by kernel_rfl) (by kernel_rfl) (fun _ _ _ h => h) (Or.inl ⟨by rfl, ?_⟩) (by assumption) ?_
      rotate_left
      · (intro w hSw; (try dsimp only at hSw); go_simp; (try rw [if_neg (by omega)]); (try (with_reducible rfl)))
      simp only [Act.put, List.setIfInBounds_toArray, List.set_cons_zero, List.set_cons_succ]
      refine take_L [1] (i := 1) (d := some 36) (v := ?_) (by kernel_rfl) (by kernel_rfl) (by kernel_rfl) (by kernel_rfl) rfl rfl (by kernel_rfl) (by kernel_rfl) (by kernel_rfl) (fun _ _ _ h => h) (Or.inl ⟨by rfl, ?_⟩) (by assumption) ?_
      rotate_left
      · (intro w hSw; (try dsimp only at hSw); go_simp; (try rw [if_neg (by omega)]); (try (with_reducible rfl)))
      simp only [Act.put, List.setIfInBounds_toArray, List.set_cons_zero, List.set_cons_succ]
      refine call_L (i := 2) (d := none) rfl rfl (by kernel_rfl) (fun Kq hKq => ?_)
      go_simp
      refine hKq.out _ _ (⟨dr4 sA1, dr4 sB1⟩) (fun hHeld => ?_)
      clear hKq Kq
      (try simp only [Act.put, List.setIfInBounds_toArray, List.set_cons_zero, List.set_cons_succ])
      refine call_L (i := 3) (d := none) rfl rfl (by kernel_rfl) (fun Kq hKq => ?_)
      go_simp
      refine hKq.out _ _ (⟨dr4 sA2, dr4 sB2⟩) (fun hHeld => ?_)
      clear hKq Kq
      (try simp only [Act.put, List.setIfInBounds_toArray, List.set_cons_zero, List.set_cons_succ])
      refine done_L (by kernel_rfl) ?_ _
      refine NoPanic.normal ?_
      (try go_wp2_with fail)
      obtain ⟨⟨k0, k1, k2, k3⟩, m0, m1, m2, m3⟩ := HFC.out
      exact bodyPost_ret (v := .tuple #[.agg #[.string s, .int .i64 a, .int .i64 b, .slice A3 n c3], .agg #[.string s', .int .i64 a', .int .i64 b', .slice A5 m c5]]) (by simp [results, Tryd.results16, go_sem, k0, k1, k2, k3, m0, m1, m2, m3]) rfl (RetDPP.dr ⟨s, a, b, _, n, f, s', a', b', _, m, g, rfl, Hss.out, Hss'.out, hn61, hm61, Rd.of_own HA2.out.row, Rd.of_own HB2.out.row, HBZ.out⟩)
    | false =>
      have hP : 0 ≤ (n : Int) * b ∧ (n : Int) * b ≤ 60000 := by
        have e1 := Int.mul_nonneg (show 0 ≤ (n : Int) by omega) (show 0 ≤ b by omega)
        obtain ⟨bb, rfl⟩ : ∃ bb : Nat, b = (bb : Int) := ⟨b.toNat, by omega⟩
        have e2 : n * bb ≤ 60 * 1000 := Nat.mul_le_mul hn60 (by omega)
        have e3 : (n : Int) * (bb : Int) = ((n * bb : Nat) : Int) := by simp
        rw [e3]; omega
      obtain ⟨P, hPe⟩ : ∃ P, (n : Int) * b = P := ⟨_, rfl⟩
      rw [hPe] at hP
      obtain ⟨hP0, hP1⟩ := hP
      have hwp : IntKind.i64.wrap ((n : Int) * b) = P := by rw [hPe]; exact IntWalk.i64_in _ (by omega)
      obtain ⟨Q, hQ⟩ : ∃ Q, a + P = Q := ⟨_, rfl⟩
      have hwa : IntKind.i64.wrap (a + P) = Q := by rw [← hQ]; exact IntWalk.i64_in _ (by omega)
      clear hPe
      have hqg := HB8.out.qg
      have hgq := HD8.out.gq
      have hneq : qa ≠ qb := by omega
      obtain ⟨⟨p0, p1, p2, p3⟩, -⟩ := HA8.out.cells
      obtain ⟨⟨j0, j1, j2, j3⟩, i0, i1, i2, i3⟩ := HB8.out.cells
      have HB9 := Lib.hid (HB8.out.field 0 (.string s) (s' := s) (a' := a') (b' := b') (v' := .slice A5 m c5) rfl)
      have HA9 := Lib.hid (HA8.out.set (x := qb) (i := 0) hneq (HA8.out.ne HB8.out.blk) (.string s))
      have HD9 := Lib.hid (HD8.out.set (q := qb) (i := 0) (by omega) hqg (.string s))
      clear HB8 HA8 HD8
      go_upto_region 6 with (fail)
      generalize w8.setCell ⟨qb, 0, none⟩ (.string s) = w9 at *
      clear p0 p1 p2 p3 j0 j1 j2 j3 i0 i1 i2 i3
      obtain ⟨⟨p0, p1, p2, p3⟩, -⟩ := HA9.out.cells
      obtain ⟨⟨j0, j1, j2, j3⟩, i0, i1, i2, i3⟩ := HB9.out.cells
      have HB10 := Lib.hid (HB9.out.field 2 (.int .i64 b) (s' := s) (a' := a') (b' := b) (v' := .slice A5 m c5) rfl)
      have HA10 := Lib.hid (HA9.out.set (x := qb) (i := 2) hneq (HA9.out.ne HB9.out.blk) (.int .i64 b))
      have HD10 := Lib.hid (HD9.out.set (q := qb) (i := 2) (by omega) hqg (.int .i64 b))
      clear HB9 HA9 HD9
      go_upto_region 7 with (fail)
      generalize w9.setCell ⟨qb, 2, none⟩ (.int .i64 b) = w10 at *
      clear p0 p1 p2 p3 j0 j1 j2 j3 i0 i1 i2 i3
      obtain ⟨⟨p0, p1, p2, p3⟩, -⟩ := HA10.out.cells
      obtain ⟨⟨j0, j1, j2, j3⟩, i0, i1, i2, i3⟩ := HB10.out.cells
      have HB11 := Lib.hid (HB10.out.field 1 (.int .i64 Q) (s' := s) (a' := Q) (b' := b) (v' := .slice A5 m c5) rfl)
      have HA11 := Lib.hid (HA10.out.set (x := qb) (i := 1) hneq (HA10.out.ne HB10.out.blk) (.int .i64 Q))
      have HD11 := Lib.hid (HD10.out.set (q := qb) (i := 1) (by omega) hqg (.int .i64 Q))
      clear HB10 HA10 HD10
      go_upto_region 8 with (fail)
      (try rw [hQ])
      generalize w10.setCell ⟨qb, 1, none⟩ (.int .i64 Q) = w11 at *
      clear p0 p1 p2 p3 j0 j1 j2 j3 i0 i1 i2 i3 hwp hwa hQ
      go_upto_region 8 with (fail)
      obtain ⟨⟨⟨z0, z1, z2, z3⟩, y0, y1, y2, y3⟩, ⟨⟨u0, u1, u2, u3⟩, t0, t1, t2, t3⟩, HFc, hbz⟩ := d2_fin HD11.out (.string s) (.int .i64 a) (.int .i64 b) (.slice A3 n c3) (.string s) (.int .i64 Q) (.int .i64 b) (.slice A5 m c5)
      have HFC := Lib.hid HFc
      have hgq := HD11.out.gq
      have HA1 := Lib.hid (HA11.out.fin (show w.heap.size < gs by omega) (.string s) (.int .i64 a) (.int .i64 b) (.slice A3 n c3))
      have HB1 := Lib.hid (HB11.out.fin (show w.heap.size < gs by omega) (.string s) (.int .i64 a) (.int .i64 b) (.slice A3 n c3))
      have HA2 := Lib.hid (HA1.out.fin (show w.heap.size + 1 < gs by omega) (.string s) (.int .i64 Q) (.int .i64 b) (.slice A5 m c5))
      have HB2 := Lib.hid (HB1.out.fin (show w.heap.size + 1 < gs by omega) (.string s) (.int .i64 Q) (.int .i64 b) (.slice A5 m c5))
      have HBZ := Lib.hid hbz
      have sA := HA11.out.cells.1
      have sB := HB11.out.cells.1
      have sA1 := HA1.out.cells.1
      have sB1 := HB1.out.cells.1
      have sA2 := HA2.out.cells.1
      have sB2 := HB2.out.cells.1
      clear HFc hbz
      refine wp_region_noPanic ?_
      refine wp_region_L [] (fun w' => (w'.cell? ⟨qa, 0, none⟩ = some (.string s) ∧ w'.cell? ⟨qa, 1, none⟩ = some (.int .i64 a) ∧ w'.cell? ⟨qa, 2, none⟩ = some (.int .i64 b) ∧ w'.cell? ⟨qa, 3, none⟩ = some (.slice A3 n c3)) ∧ (w'.cell? ⟨qb, 0, none⟩ = some (.string s) ∧ w'.cell? ⟨qb, 1, none⟩ = some (.int .i64 Q) ∧ w'.cell? ⟨qb, 2, none⟩ = some (.int .i64 b) ∧ w'.cell? ⟨qb, 3, none⟩ = some (.slice A5 m c5))) (by kernel_rfl) (⟨sA, sB⟩) (fun hHeld => ?_)
      refine take_L [0] (i := 0) (d := some 35) (v := ?_) (by kernel_rfl) (by kernel_rfl) (by kernel_rfl) (by kernel_rfl) rfl rfl (by kernel_rfl) (by kernel_rfl) (by kernel_rfl) (fun _ _ _ h => h) (Or.inl ⟨by rfl, ?_⟩) (by assumption) ?_
      rotate_left
      · (intro w hSw; (try dsimp only at hSw); go_simp; (try rw [if_neg (by omega)]); (try (with_reducible rfl)))
      simp only [Act.put, List.setIfInBounds_toArray, List.set_cons_zero, List.set_cons_succ]
      refine take_L [1] (i := 1) (d := some 36) (v := ?_) (by kernel_rfl) (by kernel_rfl) (by kernel_rfl) (by kernel_rfl) rfl rfl (by kernel_rfl) (by kernel_rfl) (by kernel_rfl) (fun _ _ _ h => h) (Or.inl ⟨by rfl, ?_⟩) (by assumption) ?_
      rotate_left
      · (intro w hSw; (try dsimp only at hSw); go_simp; (try rw [if_neg (by omega)]); (try (with_reducible rfl)))
      simp only [Act.put, List.setIfInBounds_toArray, List.set_cons_zero, List.set_cons_succ]
      refine call_L (i := 2) (d := none) rfl rfl (by kernel_rfl) (fun Kq hKq => ?_)
      go_simp
      refine hKq.out _ _ (⟨dr4 sA1, dr4 sB1⟩) (fun hHeld => ?_)
      clear hKq Kq
      (try simp only [Act.put, List.setIfInBounds_toArray, List.set_cons_zero, List.set_cons_succ])
      refine call_L (i := 3) (d := none) rfl rfl (by kernel_rfl) (fun Kq hKq => ?_)
      go_simp
      refine hKq.out _ _ (⟨dr4 sA2, dr4 sB2⟩) (fun hHeld => ?_)
      clear hKq Kq
      (try simp only [Act.put, List.setIfInBounds_toArray, List.set_cons_zero, List.set_cons_succ])
      refine done_L (by kernel_rfl) ?_ _
      refine NoPanic.normal ?_
      (try go_wp2_with fail)
      obtain ⟨⟨k0, k1, k2, k3⟩, m0, m1, m2, m3⟩ := HFC.out
      exact bodyPost_ret (v := .tuple #[.agg #[.string s, .int .i64 a, .int .i64 b, .slice A3 n c3], .agg #[.string s, .int .i64 Q, .int .i64 b, .slice A5 m c5]]) (by simp [results, Tryd.results16, go_sem, k0, k1, k2, k3, m0, m1, m2, m3]) rfl (RetDPP.dr ⟨s, a, b, _, n, f, s, Q, b, _, m, g, rfl, Hss.out, Hss.out, hn61, hm61, Rd.of_own HA2.out.row, Rd.of_own HB2.out.row, HBZ.out⟩)
end Go.Proofs.YtnhngccfbnnpoaaDoor
/- Printed pages, part 10: ValueAt of both sides (gen_pa10.py). -/
namespace Go.Proofs.YtnhngccfbnnpoaaDoor
open Go.RowKit Go.Joins

def vaC (s : ByteArray) (a b : Int) (n : Nat) (f : Nat → Int) (x : Int) : Int := if pgOk s.data.toList a b n f = true then (if inB x a (lastA a b n) = true then (if (x - a) % b = 0 then 0 else 3) else 2) else 1
def vaV (s : ByteArray) (a b : Int) (n : Nat) (f : Nat → Int) (x : Int) : Int := if vaC s a b n f x = 0 then f ((x - a) / b).toNat else 0
theorem va_bad {s : ByteArray} {a b : Int} {n : Nat} {f : Nat → Int} {x : Int} (h : pgOk s.data.toList a b n f = false) : vaC s a b n f x = 1 ∧ vaV s a b n f x = 0 := by
  have e : vaC s a b n f x = 1 := by unfold vaC; rw [h]; rfl
  exact ⟨e, by unfold vaV; rw [e]; rfl⟩
theorem va_range {s : ByteArray} {a b : Int} {n : Nat} {f : Nat → Int} {x : Int} (h : pgOk s.data.toList a b n f = true) (h2 : inB x a (lastA a b n) = false) : vaC s a b n f x = 2 ∧ vaV s a b n f x = 0 := by
  have e : vaC s a b n f x = 2 := by unfold vaC; rw [h, h2]; rfl
  exact ⟨e, by unfold vaV; rw [e]; rfl⟩
theorem va_in {s : ByteArray} {a : Int} {n bb D : Nat} {f : Nat → Int} {x : Int} (h : pgOk s.data.toList a (bb : Int) n f = true) (h2 : inB x a (lastA a (bb : Int) n) = true) (hx : x - a = (D : Int)) :
    vaC s a (bb : Int) n f x = (if D % bb = 0 then 0 else 3) ∧ vaV s a (bb : Int) n f x = (if D % bb = 0 then f (D / bb) else 0) := by
  have e : vaC s a (bb : Int) n f x = (if D % bb = 0 then 0 else 3) := by
    unfold vaC
    rw [h, h2, if_pos rfl, if_pos rfl, hx]
    have : ((D : Int) % (bb : Int)) = ((D % bb : Nat) : Int) := by simp
    rw [this]
    by_cases e : D % bb = 0
    · rw [if_pos e, if_pos (by omega)]
    · rw [if_neg e, if_neg (by omega)]
  refine ⟨e, ?_⟩
  unfold vaV
  rw [e]
  by_cases e : D % bb = 0
  · rw [if_pos e, if_pos e, if_pos rfl, hx]
    have : ((D : Int) / (bb : Int)).toNat = D / bb := by
      have : ((D : Int) / (bb : Int)) = ((D / bb : Nat) : Int) := by simp
      rw [this]; rfl
    rw [this]
  · rw [if_neg e, if_neg e, if_neg (by decide)]
theorem lastA_eq (a b : Int) (n : Nat) : lastA a b n = a + ((n : Int) - 1) * b := rfl
/-- a page in a block of its own, read -/
theorem boxA {w : World} {B : Nat} {s : ByteArray} {a b : Int} {A : Option Addr} {n c : Nat} {f : Nat → Int} (h : Rd w B (.slice A n c) n 1 (tab n f)) (hB : B ≤ w.heap.size) :
    ∀ wq, Below (w.alloc (.cells #[.string s, .int .i64 a, .int .i64 b, .slice A n c] 26)).heap.size (w.alloc (.cells #[.string s, .int .i64 a, .int .i64 b, .slice A n c] 26)) wq →
      (wq.cell? ⟨w.heap.size, 0, none⟩ = some (.string s) ∧ wq.cell? ⟨w.heap.size, 1, none⟩ = some (.int .i64 a) ∧ wq.cell? ⟨w.heap.size, 2, none⟩ = some (.int .i64 b) ∧ wq.cell? ⟨w.heap.size, 3, none⟩ = some (.slice A n c)) ∧ Rd wq B (.slice A n c) n 1 (tab n f) ∧ Below w.heap.size w wq ∧ w.heap.size < wq.heap.size := by
  intro wq hq
  have hb1 := (Below.refl w.heap.size w).alloc (Nat.le_refl _) (.cells #[.string s, .int .i64 a, .int .i64 b, .slice A n c] 26)
  have hgl : w.heap.size < (w.alloc (.cells #[.string s, .int .i64 a, .int .i64 b, .slice A n c] 26)).heap.size := by simp
  obtain ⟨f0, f1, f2, f3, _⟩ := blk4 (heap_alloc_new w (.cells #[.string s, .int .i64 a, .int .i64 b, .slice A n c] 26))
  have h1 := hb1.trans (hq.mono hb1.size)
  exact ⟨fourP hgl hq ⟨f0, f1, f2, f3⟩, h.below (h1.mono hB), h1, Nat.lt_of_lt_of_le hgl hq.size⟩
def RetVa (s : ByteArray) (a b : Int) (n : Nat) (f : Nat → Int) (x : Int) (w : World) (e : Ending) (w' : World) : Prop := e = .returned (.tuple #[.int .i64 (vaV s a b n f x), .int .i64 (vaC s a b n f x)]) ∧ Below w.heap.size w w'
theorem RetVa.of {s : ByteArray} {a b : Int} {n : Nat} {f : Nat → Int} {x v c : Int} {w w' : World} (h1 : vaC s a b n f x = c) (h2 : vaV s a b n f x = v) (hb : Below w.heap.size w w') : RetVa s a b n f x w (.returned (.tuple #[.int .i64 v, .int .i64 c])) w' := by
  subst h1 h2; exact ⟨rfl, hb⟩
set_option maxRecDepth 100000 in
set_option maxHeartbeats 3200000 in
theorem ValueAtI_any (B : Nat) (s : ByteArray) (a b : Int) (A : Option Addr) (n c : Nat) (f : Nat → Int) (x : Int) (w : World) (hs : s.size ≤ 1048576) (h : Rd w B (.slice A n c) n 1 (tab n f)) (hB : B ≤ w.heap.size) (hn : n ≤ 1000) :
    Calls Tryd.prog 14 #[.agg #[.string s, .int .i64 a, .int .i64 b, .slice A n c], .int .i64 x] w (RetVa s a b n f x w) := by
  have HX := Lib.hid (boxA (s := s) (a := a) (b := b) h hB)
  have hb1 := (Below.refl w.heap.size w).alloc (Nat.le_refl _) (.cells #[.string s, .int .i64 a, .int .i64 b, .slice A n c] 26)
  obtain ⟨f0, f1, f2, f3, _⟩ := blk4 (heap_alloc_new w (.cells #[.string s, .int .i64 a, .int .i64 b, .slice A n c] 26))
  have HV := Lib.hid (ValidPageI_c B s a b A n c f _ hs (h.below (hb1.mono hB)) (Nat.le_trans hB hb1.size) hn)
  clear h hb1 f0 f1 f2 f3
  cases hok : pgOk s.data.toList a b n f with
  | false =>
    have HZ := Lib.hid (va_bad (x := x) hok)
    rw [hok] at HV
    clear hok
    go_enter Tryd.func14, Tryd.ntmps14
    go_wp2_with fail
    obtain ⟨w0, hw0⟩ : ∃ z, w.alloc (.cells #[.string s, .int .i64 a, .int .i64 b, .slice A n c] 26) = z := ⟨_, rfl⟩
    rw [hw0] at HV HX
    (try rw [hw0])
    clear hw0
    obtain ⟨⟨f0, f1, f2, f3⟩, -⟩ := HX.out w0 (Below.refl _ _)
    refine (HV.out).mono ?_; rintro e w1 ⟨rfl, hb1⟩
    have HB1 := Lib.hid hb1
    obtain ⟨⟨g0, g1, g2, g3⟩, -, hbw1, hlt1⟩ := HX.out w1 hb1
    have HBw1 := Lib.hid hbw1
    clear f0 f1 f2 f3 hb1 hbw1
    go_wp2_with fail
    go_ret2
    exact RetVa.of HZ.out.1 HZ.out.2 HBw1.out
  | true =>
    have HG := Lib.hid (pgF hok)
    have hn1 := HG.out.n1
    have hn60 := HG.out.n60
    obtain ⟨ha0, ha1⟩ := HG.out.a0
    obtain ⟨hb0, hb2⟩ := HG.out.b0
    obtain ⟨hP0, hP1⟩ := prod_bd (n := n) (b := b) ⟨hn1, hn60⟩ HG.out.b0
    have HI := Lib.hid (fun wx => between_any x a (lastA a b n) wx)
    rw [hok] at HV
    have HO := Lib.hid hok
    clear hok
    obtain ⟨P, hPe⟩ : ∃ P, ((n : Int) - 1) * b = P := ⟨_, rfl⟩
    have hLA : lastA a b n = a + P := by rw [lastA_eq, hPe]
    rw [hLA] at HI
    have HAr := Lib.hid (fun wx => argument_c s a b ((n : Int) - 1) A n c wx ⟨ha0, ha1⟩ ⟨hP0, hP1⟩)
    rw [hPe] at HAr hP0 hP1
    have hw1 : IntKind.i64.wrap ((n : Int) - 1) = (n : Int) - 1 := IntWalk.i64_in _ (by omega)
    have hw2 : IntKind.i64.wrap (((n : Int) - 1) * b) = P := by rw [hPe]; exact IntWalk.i64_in _ (by omega)
    have hw3 : IntKind.i64.wrap (a + P) = a + P := IntWalk.i64_in _ (by omega)
    have HLA := Lib.hid hLA
    clear hPe hLA
    cases hin : inB x a (a + P) with
    | false =>
      have HZ := Lib.hid (va_range HO.out (x := x) (by rw [HLA.out]; exact hin))
      rw [hin] at HI
      clear hin
      go_enter Tryd.func14, Tryd.ntmps14
      go_wp2_with fail
      obtain ⟨w0, hw0⟩ : ∃ z, w.alloc (.cells #[.string s, .int .i64 a, .int .i64 b, .slice A n c] 26) = z := ⟨_, rfl⟩
      rw [hw0] at HV HX
      (try rw [hw0])
      clear hw0
      obtain ⟨⟨f0, f1, f2, f3⟩, -⟩ := HX.out w0 (Below.refl _ _)
      refine (HV.out).mono ?_; rintro e w1 ⟨rfl, hb1⟩
      have HB1 := Lib.hid hb1
      obtain ⟨⟨g0, g1, g2, g3⟩, -, hbw1, hlt1⟩ := HX.out w1 hb1
      have HBw1 := Lib.hid hbw1
      clear f0 f1 f2 f3 hb1 hbw1
      go_wp2_with fail
      refine wp_region_noPanic ?_
      refine wp_region_L [] (fun w' => w'.cell? ⟨w.heap.size, 0, none⟩ = some (.string s) ∧ w'.cell? ⟨w.heap.size, 1, none⟩ = some (.int .i64 a) ∧ w'.cell? ⟨w.heap.size, 2, none⟩ = some (.int .i64 b) ∧ w'.cell? ⟨w.heap.size, 3, none⟩ = some (.slice A n c)) (by kernel_rfl) (⟨g0, g1, g2, g3⟩) (fun hHeld => ?_)
      refine take_F (i := 0) (d := some 9) (v := ?_) (by kernel_rfl) (by kernel_rfl) rfl rfl (by kernel_rfl) (by kernel_rfl) (by kernel_rfl) (fun _ _ _ h => h) (Or.inl ⟨by rfl, ?_⟩) (by assumption) ?_
      rotate_left
      · (intro w hSw; (try dsimp only at hSw); go_simp; (try rw [if_neg (by omega)]); (try (with_reducible rfl)))
      simp only [Act.put, List.setIfInBounds_toArray, List.set_cons_zero, List.set_cons_succ]
      refine take_F (i := 1) (d := some 10) (v := ?_) (by kernel_rfl) (by kernel_rfl) rfl rfl (by kernel_rfl) (by kernel_rfl) (by kernel_rfl) (fun _ _ _ h => h) (Or.inl ⟨by rfl, ?_⟩) (by assumption) ?_
      rotate_left
      · (intro w hSw; (try dsimp only at hSw); go_simp; (try rw [if_neg (by omega)]); (try (with_reducible rfl)))
      simp only [Act.put, List.setIfInBounds_toArray, List.set_cons_zero, List.set_cons_succ]
      refine take_L [9,2] (i := 2) (d := some 11) (v := ?_) (by kernel_rfl) (by kernel_rfl) (by kernel_rfl) (by kernel_rfl) rfl rfl (by kernel_rfl) (by kernel_rfl) (by kernel_rfl) (fun _ _ _ h => h) (Or.inl ⟨by rfl, ?_⟩) (by assumption) ?_
      rotate_left
      · (intro w hSw; (try dsimp only at hSw); go_simp; (try rw [if_neg (by omega)]); (try (with_reducible rfl)))
      simp only [Act.put, List.setIfInBounds_toArray, List.set_cons_zero, List.set_cons_succ]
      refine take_L [9,8,3] (i := 3) (d := some 12) (v := ?_) (by kernel_rfl) (by kernel_rfl) (by kernel_rfl) (by kernel_rfl) rfl rfl (by kernel_rfl) (by kernel_rfl) (by kernel_rfl) (fun _ _ _ h => h) (Or.inl ⟨by rfl, ?_⟩) (by assumption) ?_
      rotate_left
      · (intro w hSw; (try dsimp only at hSw); go_simp; (try rw [if_neg (by omega)]); (try (with_reducible rfl)))
      simp only [Act.put, List.setIfInBounds_toArray, List.set_cons_zero, List.set_cons_succ]
      refine take_F (i := 4) (d := some 13) (v := ?_) (by kernel_rfl) (by kernel_rfl) rfl rfl (by kernel_rfl) (by kernel_rfl) (by kernel_rfl) (fun _ _ _ h => h) (Or.inl ⟨by rfl, ?_⟩) (by assumption) ?_
      rotate_left
      · (intro w hSw; (try dsimp only at hSw); go_simp; (try rw [if_neg (by omega)]); (try (with_reducible rfl)))
      simp only [Act.put, List.setIfInBounds_toArray, List.set_cons_zero, List.set_cons_succ]
      refine take_L [9,8,7,6,5] (i := 5) (d := some 14) (v := ?_) (by kernel_rfl) (by kernel_rfl) (by kernel_rfl) (by kernel_rfl) rfl rfl (by kernel_rfl) (by kernel_rfl) (by kernel_rfl) (fun _ _ _ h => h) (Or.inl ⟨by rfl, ?_⟩) (by assumption) ?_
      rotate_left
      · (intro w hSw; (try dsimp only at hSw); go_simp; (try rw [if_neg (by omega)]); (try (with_reducible rfl)))
      simp only [Act.put, List.setIfInBounds_toArray, List.set_cons_zero, List.set_cons_succ]
      refine take_F (i := 6) (d := some 15) (v := ?_) (by kernel_rfl) (by kernel_rfl) rfl rfl (by kernel_rfl) (by kernel_rfl) (by kernel_rfl) (fun _ _ _ h => h) (Or.inl ⟨by rfl, ?_⟩) (by assumption) ?_
      rotate_left
      · (intro w hSw; (try dsimp only at hSw); go_simp; (try rw [if_neg (by omega)]); (try (with_reducible rfl)))
      simp only [Act.put, List.setIfInBounds_toArray, List.set_cons_zero, List.set_cons_succ]
      refine take_F (i := 7) (d := some 16) (v := ?_) (by kernel_rfl) (by kernel_rfl) rfl rfl (by kernel_rfl) (by kernel_rfl) (by kernel_rfl) (fun _ _ _ h => h) (Or.inl ⟨by rfl, ?_⟩) (by assumption) ?_
      rotate_left
      · (intro w hSw; (try dsimp only at hSw); go_simp; (try rw [if_neg (by omega)]); (try (with_reducible rfl)))
      simp only [Act.put, List.setIfInBounds_toArray, List.set_cons_zero, List.set_cons_succ]
      refine call_L (i := 8) (d := (some 17)) rfl rfl (by kernel_rfl) (fun Kq hKq => ?_)
      go_simp
      go_at_call 45
      refine (HAr.out _).mono ?_; rintro e w3 ⟨rfl, hb3⟩
      have hb3' := HB1.out.trans ((below_undrew hb3).mono HB1.out.size)
      have HB3 := Lib.hid hb3'
      obtain ⟨⟨m0, m1, m2, m3⟩, hR3, hbw3, -⟩ := HX.out w3 hb3'
      have HBw3 := Lib.hid hbw3
      have HR3 := Lib.hid hR3
      clear hb3 hb3' hbw3 hR3
      (try go_wp2_with fail)
      refine hKq.out _ _ (⟨m0, m1, m2, m3⟩) (fun hHeld => ?_)
      clear hKq Kq
      (try simp only [Act.put, List.setIfInBounds_toArray, List.set_cons_zero, List.set_cons_succ])
      refine call_L (i := 9) (d := (some 18)) rfl rfl (by kernel_rfl) (fun Kq hKq => ?_)
      go_simp
      go_at_call 44
      refine (HI.out _).mono ?_; rintro e w4 ⟨rfl, rfl⟩
      (try go_wp2_with fail)
      refine hKq.out _ _ (⟨m0, m1, m2, m3⟩) (fun hHeld => ?_)
      clear hKq Kq
      (try simp only [Act.put, List.setIfInBounds_toArray, List.set_cons_zero, List.set_cons_succ])
      refine take_F (i := 10) (d := some 19) (v := ?_) (by kernel_rfl) (by kernel_rfl) rfl rfl (by kernel_rfl) (by kernel_rfl) (by kernel_rfl) (fun _ _ _ h => h) (Or.inl ⟨by rfl, ?_⟩) (by assumption) ?_
      rotate_left
      · (intro w hSw; (try dsimp only at hSw); go_simp; (try rw [if_neg (by omega)]); (try (with_reducible rfl)))
      simp only [Act.put, List.setIfInBounds_toArray, List.set_cons_zero, List.set_cons_succ]
      refine done_L (by kernel_rfl) ?_ _
      refine NoPanic.normal ?_
      go_wp2_with fail
      go_ret2
      exact RetVa.of HZ.out.1 HZ.out.2 HBw3.out
    | true =>
      obtain ⟨hx0, hx1⟩ := inB_iff.1 hin
      obtain ⟨D, hD⟩ : ∃ D : Nat, x - a = (D : Int) := ⟨(x - a).toNat, by omega⟩
      obtain ⟨bb, rfl⟩ : ∃ bb : Nat, b = (bb : Int) := ⟨b.toNat, by omega⟩
      have HZ := Lib.hid (va_in HO.out (x := x) (by rw [HLA.out]; exact hin) hD)
      rw [hin] at HI
      have hq : D / bb < n := by
        have e1 : ((n : Int) - 1) * (bb : Int) = (((n - 1) * bb : Nat) : Int) := by rw [Int.natCast_mul]; congr 1; omega
        have e2 := HLA.out
        rw [lastA_eq, e1] at e2
        have e3 : D ≤ (n - 1) * bb := by omega
        have e4 := Nat.div_le_div_right (c := bb) e3
        rw [Nat.mul_div_cancel _ (show 0 < bb by omega)] at e4
        omega
      have hwD : IntKind.i64.wrap (x - a) = (D : Int) := by rw [hD]; exact IntWalk.i64_in _ (by omega)
      have hbne : ((bb : Int) == 0) = false := beq_eq_false_iff_ne.2 (by omega)
      have hbn0 : ¬ (bb : Int) = 0 := by omega
      have ht1 : Int.tmod (D : Int) (bb : Int) = ((D % bb : Nat) : Int) := by rw [Int.tmod_eq_emod_of_nonneg (by omega)]; simp
      have ht2 : Int.tdiv (D : Int) (bb : Int) = ((D / bb : Nat) : Int) := by rw [Int.tdiv_eq_ediv_of_nonneg (by omega)]; simp
      have ht3 : (D : Int) % (bb : Int) = ((D % bb : Nat) : Int) := by simp
      have ht4 : (D : Int) / (bb : Int) = ((D / bb : Nat) : Int) := by simp
      have hr1 : D % bb < bb := Nat.mod_lt _ (by omega)
      have hb3 : bb ≤ 1000 := by omega
      generalize D % bb = r at *
      generalize D / bb = q at *
      clear hin hD
      by_cases hr : r = 0
      · have HZ := Lib.hid (show vaC s a (bb : Int) n f x = 0 ∧ vaV s a (bb : Int) n f x = f q by rw [HZ.out.1, HZ.out.2, if_pos hr, if_pos hr]; exact ⟨rfl, rfl⟩)
        subst hr
        have hq' : (q : Int) < (n : Int) := by omega
        go_enter Tryd.func14, Tryd.ntmps14
        go_wp2_with fail
        obtain ⟨w0, hw0⟩ : ∃ z, w.alloc (.cells #[.string s, .int .i64 a, .int .i64 (bb : Int), .slice A n c] 26) = z := ⟨_, rfl⟩
        rw [hw0] at HV HX
        (try rw [hw0])
        clear hw0
        obtain ⟨⟨f0, f1, f2, f3⟩, -⟩ := HX.out w0 (Below.refl _ _)
        refine (HV.out).mono ?_; rintro e w1 ⟨rfl, hb1⟩
        have HB1 := Lib.hid hb1
        obtain ⟨⟨g0, g1, g2, g3⟩, -, hbw1, hlt1⟩ := HX.out w1 hb1
        have HBw1 := Lib.hid hbw1
        clear f0 f1 f2 f3 hb1 hbw1
        go_wp2_with fail
        refine wp_region_noPanic ?_
        refine wp_region_L [] (fun w' => w'.cell? ⟨w.heap.size, 0, none⟩ = some (.string s) ∧ w'.cell? ⟨w.heap.size, 1, none⟩ = some (.int .i64 a) ∧ w'.cell? ⟨w.heap.size, 2, none⟩ = some (.int .i64 (bb : Int)) ∧ w'.cell? ⟨w.heap.size, 3, none⟩ = some (.slice A n c)) (by kernel_rfl) (⟨g0, g1, g2, g3⟩) (fun hHeld => ?_)
        refine take_F (i := 0) (d := some 9) (v := ?_) (by kernel_rfl) (by kernel_rfl) rfl rfl (by kernel_rfl) (by kernel_rfl) (by kernel_rfl) (fun _ _ _ h => h) (Or.inl ⟨by rfl, ?_⟩) (by assumption) ?_
        rotate_left
        · (intro w hSw; (try dsimp only at hSw); go_simp; (try rw [if_neg (by omega)]); (try (with_reducible rfl)))
        simp only [Act.put, List.setIfInBounds_toArray, List.set_cons_zero, List.set_cons_succ]
        refine take_F (i := 1) (d := some 10) (v := ?_) (by kernel_rfl) (by kernel_rfl) rfl rfl (by kernel_rfl) (by kernel_rfl) (by kernel_rfl) (fun _ _ _ h => h) (Or.inl ⟨by rfl, ?_⟩) (by assumption) ?_
        rotate_left
        · (intro w hSw; (try dsimp only at hSw); go_simp; (try rw [if_neg (by omega)]); (try (with_reducible rfl)))
        simp only [Act.put, List.setIfInBounds_toArray, List.set_cons_zero, List.set_cons_succ]
        refine take_L [9,2] (i := 2) (d := some 11) (v := ?_) (by kernel_rfl) (by kernel_rfl) (by kernel_rfl) (by kernel_rfl) rfl rfl (by kernel_rfl) (by kernel_rfl) (by kernel_rfl) (fun _ _ _ h => h) (Or.inl ⟨by rfl, ?_⟩) (by assumption) ?_
        rotate_left
        · (intro w hSw; (try dsimp only at hSw); go_simp; (try rw [if_neg (by omega)]); (try (with_reducible rfl)))
        simp only [Act.put, List.setIfInBounds_toArray, List.set_cons_zero, List.set_cons_succ]
        refine take_L [9,8,3] (i := 3) (d := some 12) (v := ?_) (by kernel_rfl) (by kernel_rfl) (by kernel_rfl) (by kernel_rfl) rfl rfl (by kernel_rfl) (by kernel_rfl) (by kernel_rfl) (fun _ _ _ h => h) (Or.inl ⟨by rfl, ?_⟩) (by assumption) ?_
        rotate_left
        · (intro w hSw; (try dsimp only at hSw); go_simp; (try rw [if_neg (by omega)]); (try (with_reducible rfl)))
        simp only [Act.put, List.setIfInBounds_toArray, List.set_cons_zero, List.set_cons_succ]
        refine take_F (i := 4) (d := some 13) (v := ?_) (by kernel_rfl) (by kernel_rfl) rfl rfl (by kernel_rfl) (by kernel_rfl) (by kernel_rfl) (fun _ _ _ h => h) (Or.inl ⟨by rfl, ?_⟩) (by assumption) ?_
        rotate_left
        · (intro w hSw; (try dsimp only at hSw); go_simp; (try rw [if_neg (by omega)]); (try (with_reducible rfl)))
        simp only [Act.put, List.setIfInBounds_toArray, List.set_cons_zero, List.set_cons_succ]
        refine take_L [9,8,7,6,5] (i := 5) (d := some 14) (v := ?_) (by kernel_rfl) (by kernel_rfl) (by kernel_rfl) (by kernel_rfl) rfl rfl (by kernel_rfl) (by kernel_rfl) (by kernel_rfl) (fun _ _ _ h => h) (Or.inl ⟨by rfl, ?_⟩) (by assumption) ?_
        rotate_left
        · (intro w hSw; (try dsimp only at hSw); go_simp; (try rw [if_neg (by omega)]); (try (with_reducible rfl)))
        simp only [Act.put, List.setIfInBounds_toArray, List.set_cons_zero, List.set_cons_succ]
        refine take_F (i := 6) (d := some 15) (v := ?_) (by kernel_rfl) (by kernel_rfl) rfl rfl (by kernel_rfl) (by kernel_rfl) (by kernel_rfl) (fun _ _ _ h => h) (Or.inl ⟨by rfl, ?_⟩) (by assumption) ?_
        rotate_left
        · (intro w hSw; (try dsimp only at hSw); go_simp; (try rw [if_neg (by omega)]); (try (with_reducible rfl)))
        simp only [Act.put, List.setIfInBounds_toArray, List.set_cons_zero, List.set_cons_succ]
        refine take_F (i := 7) (d := some 16) (v := ?_) (by kernel_rfl) (by kernel_rfl) rfl rfl (by kernel_rfl) (by kernel_rfl) (by kernel_rfl) (fun _ _ _ h => h) (Or.inl ⟨by rfl, ?_⟩) (by assumption) ?_
        rotate_left
        · (intro w hSw; (try dsimp only at hSw); go_simp; (try rw [if_neg (by omega)]); (try (with_reducible rfl)))
        simp only [Act.put, List.setIfInBounds_toArray, List.set_cons_zero, List.set_cons_succ]
        refine call_L (i := 8) (d := (some 17)) rfl rfl (by kernel_rfl) (fun Kq hKq => ?_)
        go_simp
        go_at_call 45
        refine (HAr.out _).mono ?_; rintro e w3 ⟨rfl, hb3⟩
        have hb3' := HB1.out.trans ((below_undrew hb3).mono HB1.out.size)
        have HB3 := Lib.hid hb3'
        obtain ⟨⟨m0, m1, m2, m3⟩, hR3, hbw3, -⟩ := HX.out w3 hb3'
        have HBw3 := Lib.hid hbw3
        have HR3 := Lib.hid hR3
        clear hb3 hb3' hbw3 hR3
        (try go_wp2_with fail)
        refine hKq.out _ _ (⟨m0, m1, m2, m3⟩) (fun hHeld => ?_)
        clear hKq Kq
        (try simp only [Act.put, List.setIfInBounds_toArray, List.set_cons_zero, List.set_cons_succ])
        refine call_L (i := 9) (d := (some 18)) rfl rfl (by kernel_rfl) (fun Kq hKq => ?_)
        go_simp
        go_at_call 44
        refine (HI.out _).mono ?_; rintro e w4 ⟨rfl, rfl⟩
        (try go_wp2_with fail)
        refine hKq.out _ _ (⟨m0, m1, m2, m3⟩) (fun hHeld => ?_)
        clear hKq Kq
        (try simp only [Act.put, List.setIfInBounds_toArray, List.set_cons_zero, List.set_cons_succ])
        refine take_F (i := 10) (d := some 19) (v := ?_) (by kernel_rfl) (by kernel_rfl) rfl rfl (by kernel_rfl) (by kernel_rfl) (by kernel_rfl) (fun _ _ _ h => h) (Or.inl ⟨by rfl, ?_⟩) (by assumption) ?_
        rotate_left
        · (intro w hSw; (try dsimp only at hSw); go_simp; (try rw [if_neg (by omega)]); (try (with_reducible rfl)))
        simp only [Act.put, List.setIfInBounds_toArray, List.set_cons_zero, List.set_cons_succ]
        refine done_L (by kernel_rfl) ?_ _
        refine NoPanic.normal ?_
        obtain ⟨b1, o1, hA, _, hcc⟩ := rdF_all HR3.out (by omega)
        subst hA
        have c0 := hcc q hq
        clear hcc
        generalize f q = y at *
        go_upto_region 7 with (fail)
        go_quiet (fail)
        go_wp2_with fail
        go_ret2
        exact RetVa.of HZ.out.1 HZ.out.2 (below_drewN HBw3.out _)
      · have HZ := Lib.hid (show vaC s a (bb : Int) n f x = 3 ∧ vaV s a (bb : Int) n f x = 0 by rw [HZ.out.1, HZ.out.2, if_neg hr, if_neg hr]; exact ⟨rfl, rfl⟩)
        have hr' : ¬ (r : Int) = 0 := by omega
        clear hr
        go_enter Tryd.func14, Tryd.ntmps14
        go_wp2_with fail
        obtain ⟨w0, hw0⟩ : ∃ z, w.alloc (.cells #[.string s, .int .i64 a, .int .i64 (bb : Int), .slice A n c] 26) = z := ⟨_, rfl⟩
        rw [hw0] at HV HX
        (try rw [hw0])
        clear hw0
        obtain ⟨⟨f0, f1, f2, f3⟩, -⟩ := HX.out w0 (Below.refl _ _)
        refine (HV.out).mono ?_; rintro e w1 ⟨rfl, hb1⟩
        have HB1 := Lib.hid hb1
        obtain ⟨⟨g0, g1, g2, g3⟩, -, hbw1, hlt1⟩ := HX.out w1 hb1
        have HBw1 := Lib.hid hbw1
        clear f0 f1 f2 f3 hb1 hbw1
        go_wp2_with fail
        refine wp_region_noPanic ?_
        refine wp_region_L [] (fun w' => w'.cell? ⟨w.heap.size, 0, none⟩ = some (.string s) ∧ w'.cell? ⟨w.heap.size, 1, none⟩ = some (.int .i64 a) ∧ w'.cell? ⟨w.heap.size, 2, none⟩ = some (.int .i64 (bb : Int)) ∧ w'.cell? ⟨w.heap.size, 3, none⟩ = some (.slice A n c)) (by kernel_rfl) (⟨g0, g1, g2, g3⟩) (fun hHeld => ?_)
        refine take_F (i := 0) (d := some 9) (v := ?_) (by kernel_rfl) (by kernel_rfl) rfl rfl (by kernel_rfl) (by kernel_rfl) (by kernel_rfl) (fun _ _ _ h => h) (Or.inl ⟨by rfl, ?_⟩) (by assumption) ?_
        rotate_left
        · (intro w hSw; (try dsimp only at hSw); go_simp; (try rw [if_neg (by omega)]); (try (with_reducible rfl)))
        simp only [Act.put, List.setIfInBounds_toArray, List.set_cons_zero, List.set_cons_succ]
        refine take_F (i := 1) (d := some 10) (v := ?_) (by kernel_rfl) (by kernel_rfl) rfl rfl (by kernel_rfl) (by kernel_rfl) (by kernel_rfl) (fun _ _ _ h => h) (Or.inl ⟨by rfl, ?_⟩) (by assumption) ?_
        rotate_left
        · (intro w hSw; (try dsimp only at hSw); go_simp; (try rw [if_neg (by omega)]); (try (with_reducible rfl)))
        simp only [Act.put, List.setIfInBounds_toArray, List.set_cons_zero, List.set_cons_succ]
        refine take_L [9,2] (i := 2) (d := some 11) (v := ?_) (by kernel_rfl) (by kernel_rfl) (by kernel_rfl) (by kernel_rfl) rfl rfl (by kernel_rfl) (by kernel_rfl) (by kernel_rfl) (fun _ _ _ h => h) (Or.inl ⟨by rfl, ?_⟩) (by assumption) ?_
        rotate_left
        · (intro w hSw; (try dsimp only at hSw); go_simp; (try rw [if_neg (by omega)]); (try (with_reducible rfl)))
        simp only [Act.put, List.setIfInBounds_toArray, List.set_cons_zero, List.set_cons_succ]
        refine take_L [9,8,3] (i := 3) (d := some 12) (v := ?_) (by kernel_rfl) (by kernel_rfl) (by kernel_rfl) (by kernel_rfl) rfl rfl (by kernel_rfl) (by kernel_rfl) (by kernel_rfl) (fun _ _ _ h => h) (Or.inl ⟨by rfl, ?_⟩) (by assumption) ?_
        rotate_left
        · (intro w hSw; (try dsimp only at hSw); go_simp; (try rw [if_neg (by omega)]); (try (with_reducible rfl)))
        simp only [Act.put, List.setIfInBounds_toArray, List.set_cons_zero, List.set_cons_succ]
        refine take_F (i := 4) (d := some 13) (v := ?_) (by kernel_rfl) (by kernel_rfl) rfl rfl (by kernel_rfl) (by kernel_rfl) (by kernel_rfl) (fun _ _ _ h => h) (Or.inl ⟨by rfl, ?_⟩) (by assumption) ?_
        rotate_left
        · (intro w hSw; (try dsimp only at hSw); go_simp; (try rw [if_neg (by omega)]); (try (with_reducible rfl)))
        simp only [Act.put, List.setIfInBounds_toArray, List.set_cons_zero, List.set_cons_succ]
        refine take_L [9,8,7,6,5] (i := 5) (d := some 14) (v := ?_) (by kernel_rfl) (by kernel_rfl) (by kernel_rfl) (by kernel_rfl) rfl rfl (by kernel_rfl) (by kernel_rfl) (by kernel_rfl) (fun _ _ _ h => h) (Or.inl ⟨by rfl, ?_⟩) (by assumption) ?_
        rotate_left
        · (intro w hSw; (try dsimp only at hSw); go_simp; (try rw [if_neg (by omega)]); (try (with_reducible rfl)))
        simp only [Act.put, List.setIfInBounds_toArray, List.set_cons_zero, List.set_cons_succ]
        refine take_F (i := 6) (d := some 15) (v := ?_) (by kernel_rfl) (by kernel_rfl) rfl rfl (by kernel_rfl) (by kernel_rfl) (by kernel_rfl) (fun _ _ _ h => h) (Or.inl ⟨by rfl, ?_⟩) (by assumption) ?_
        rotate_left
        · (intro w hSw; (try dsimp only at hSw); go_simp; (try rw [if_neg (by omega)]); (try (with_reducible rfl)))
        simp only [Act.put, List.setIfInBounds_toArray, List.set_cons_zero, List.set_cons_succ]
        refine take_F (i := 7) (d := some 16) (v := ?_) (by kernel_rfl) (by kernel_rfl) rfl rfl (by kernel_rfl) (by kernel_rfl) (by kernel_rfl) (fun _ _ _ h => h) (Or.inl ⟨by rfl, ?_⟩) (by assumption) ?_
        rotate_left
        · (intro w hSw; (try dsimp only at hSw); go_simp; (try rw [if_neg (by omega)]); (try (with_reducible rfl)))
        simp only [Act.put, List.setIfInBounds_toArray, List.set_cons_zero, List.set_cons_succ]
        refine call_L (i := 8) (d := (some 17)) rfl rfl (by kernel_rfl) (fun Kq hKq => ?_)
        go_simp
        go_at_call 45
        refine (HAr.out _).mono ?_; rintro e w3 ⟨rfl, hb3⟩
        have hb3' := HB1.out.trans ((below_undrew hb3).mono HB1.out.size)
        have HB3 := Lib.hid hb3'
        obtain ⟨⟨m0, m1, m2, m3⟩, hR3, hbw3, -⟩ := HX.out w3 hb3'
        have HBw3 := Lib.hid hbw3
        have HR3 := Lib.hid hR3
        clear hb3 hb3' hbw3 hR3
        (try go_wp2_with fail)
        refine hKq.out _ _ (⟨m0, m1, m2, m3⟩) (fun hHeld => ?_)
        clear hKq Kq
        (try simp only [Act.put, List.setIfInBounds_toArray, List.set_cons_zero, List.set_cons_succ])
        refine call_L (i := 9) (d := (some 18)) rfl rfl (by kernel_rfl) (fun Kq hKq => ?_)
        go_simp
        go_at_call 44
        refine (HI.out _).mono ?_; rintro e w4 ⟨rfl, rfl⟩
        (try go_wp2_with fail)
        refine hKq.out _ _ (⟨m0, m1, m2, m3⟩) (fun hHeld => ?_)
        clear hKq Kq
        (try simp only [Act.put, List.setIfInBounds_toArray, List.set_cons_zero, List.set_cons_succ])
        refine take_F (i := 10) (d := some 19) (v := ?_) (by kernel_rfl) (by kernel_rfl) rfl rfl (by kernel_rfl) (by kernel_rfl) (by kernel_rfl) (fun _ _ _ h => h) (Or.inl ⟨by rfl, ?_⟩) (by assumption) ?_
        rotate_left
        · (intro w hSw; (try dsimp only at hSw); go_simp; (try rw [if_neg (by omega)]); (try (with_reducible rfl)))
        simp only [Act.put, List.setIfInBounds_toArray, List.set_cons_zero, List.set_cons_succ]
        refine done_L (by kernel_rfl) ?_ _
        refine NoPanic.normal ?_
        go_wp2_with fail
        go_ret2
        exact RetVa.of HZ.out.1 HZ.out.2 HBw3.out
set_option maxRecDepth 100000 in
set_option maxHeartbeats 3200000 in
theorem ValueAtS_any (B : Nat) (s : ByteArray) (a b : Int) (A : Option Addr) (n c : Nat) (f : Nat → Int) (x : Int) (w : World) (hs : s.size ≤ 1048576) (h : Rd w B (.slice A n c) n 1 (tab n f)) (hB : B ≤ w.heap.size) (hn : n ≤ 1000) :
    Calls Tryd.prog 15 #[.agg #[.string s, .int .i64 a, .int .i64 b, .slice A n c], .int .i64 x] w (RetVa s a b n f x w) := by
  have HX := Lib.hid (boxA (s := s) (a := a) (b := b) h hB)
  have hb1 := (Below.refl w.heap.size w).alloc (Nat.le_refl _) (.cells #[.string s, .int .i64 a, .int .i64 b, .slice A n c] 26)
  obtain ⟨f0, f1, f2, f3, _⟩ := blk4 (heap_alloc_new w (.cells #[.string s, .int .i64 a, .int .i64 b, .slice A n c] 26))
  have HV := Lib.hid (l18Ok_c w.heap.size B s a b A n c f _ hs f0 f1 f2 f3 (h.below (hb1.mono hB)) hn)
  clear h hb1 f0 f1 f2 f3
  cases hok : pgOk s.data.toList a b n f with
  | false =>
    have HZ := Lib.hid (va_bad (x := x) hok)
    rw [hok] at HV
    clear hok
    go_enter Tryd.func15, Tryd.ntmps15
    go_wp2_with fail
    obtain ⟨w0, hw0⟩ : ∃ z, w.alloc (.cells #[.string s, .int .i64 a, .int .i64 b, .slice A n c] 26) = z := ⟨_, rfl⟩
    rw [hw0] at HV HX
    (try rw [hw0])
    clear hw0
    obtain ⟨⟨f0, f1, f2, f3⟩, -⟩ := HX.out w0 (Below.refl _ _)
    refine (HV.out).mono ?_; rintro e w1 ⟨rfl, dd, hd1⟩
    have hb1 : Below w0.heap.size w0 w1 := by rw [hd1]; exact below_drewN (Below.refl _ _) dd
    clear hd1
    have HB1 := Lib.hid hb1
    obtain ⟨⟨g0, g1, g2, g3⟩, -, hbw1, hlt1⟩ := HX.out w1 hb1
    have HBw1 := Lib.hid hbw1
    clear f0 f1 f2 f3 hb1 hbw1
    go_wp2_with fail
    go_ret2
    exact RetVa.of HZ.out.1 HZ.out.2 HBw1.out
  | true =>
    have HG := Lib.hid (pgF hok)
    have hn1 := HG.out.n1
    have hn60 := HG.out.n60
    obtain ⟨ha0, ha1⟩ := HG.out.a0
    obtain ⟨hb0, hb2⟩ := HG.out.b0
    obtain ⟨hP0, hP1⟩ := prod_bd (n := n) (b := b) ⟨hn1, hn60⟩ HG.out.b0
    have HI := Lib.hid (fun wx => l00In_any x a (lastA a b n) wx)
    rw [hok] at HV
    have HO := Lib.hid hok
    clear hok
    obtain ⟨P, hPe⟩ : ∃ P, ((n : Int) - 1) * b = P := ⟨_, rfl⟩
    have hLA : lastA a b n = a + P := by rw [lastA_eq, hPe]
    rw [hLA] at HI
    have HAr := Lib.hid (fun wx => argument_c s a b ((n : Int) - 1) A n c wx ⟨ha0, ha1⟩ ⟨hP0, hP1⟩)
    rw [hPe] at HAr hP0 hP1
    have hw1 : IntKind.i64.wrap ((n : Int) - 1) = (n : Int) - 1 := IntWalk.i64_in _ (by omega)
    have hw2 : IntKind.i64.wrap (((n : Int) - 1) * b) = P := by rw [hPe]; exact IntWalk.i64_in _ (by omega)
    have hw3 : IntKind.i64.wrap (a + P) = a + P := IntWalk.i64_in _ (by omega)
    have HLA := Lib.hid hLA
    clear hPe hLA
    cases hin : inB x a (a + P) with
    | false =>
      have HZ := Lib.hid (va_range HO.out (x := x) (by rw [HLA.out]; exact hin))
      rw [hin] at HI
      clear hin
      go_enter Tryd.func15, Tryd.ntmps15
      go_wp2_with fail
      obtain ⟨w0, hw0⟩ : ∃ z, w.alloc (.cells #[.string s, .int .i64 a, .int .i64 b, .slice A n c] 26) = z := ⟨_, rfl⟩
      rw [hw0] at HV HX
      (try rw [hw0])
      clear hw0
      obtain ⟨⟨f0, f1, f2, f3⟩, -⟩ := HX.out w0 (Below.refl _ _)
      refine (HV.out).mono ?_; rintro e w1 ⟨rfl, dd, hd1⟩
      have hb1 : Below w0.heap.size w0 w1 := by rw [hd1]; exact below_drewN (Below.refl _ _) dd
      clear hd1
      have HB1 := Lib.hid hb1
      obtain ⟨⟨g0, g1, g2, g3⟩, -, hbw1, hlt1⟩ := HX.out w1 hb1
      have HBw1 := Lib.hid hbw1
      clear f0 f1 f2 f3 hb1 hbw1
      go_wp2_with fail
      refine (HI.out _).mono ?_; rintro e w3 ⟨rfl, rfl⟩
      obtain ⟨⟨m0, m1, m2, m3⟩, hR3, hbw3, -⟩ := HX.out w1 HB1.out
      have HBw3 := Lib.hid hbw3
      have HR3 := Lib.hid hR3
      clear hbw3 hR3
      go_wp2_with fail
      go_ret2
      exact RetVa.of HZ.out.1 HZ.out.2 HBw3.out
    | true =>
      obtain ⟨hx0, hx1⟩ := inB_iff.1 hin
      obtain ⟨D, hD⟩ : ∃ D : Nat, x - a = (D : Int) := ⟨(x - a).toNat, by omega⟩
      obtain ⟨bb, rfl⟩ : ∃ bb : Nat, b = (bb : Int) := ⟨b.toNat, by omega⟩
      have HZ := Lib.hid (va_in HO.out (x := x) (by rw [HLA.out]; exact hin) hD)
      rw [hin] at HI
      have hq : D / bb < n := by
        have e1 : ((n : Int) - 1) * (bb : Int) = (((n - 1) * bb : Nat) : Int) := by rw [Int.natCast_mul]; congr 1; omega
        have e2 := HLA.out
        rw [lastA_eq, e1] at e2
        have e3 : D ≤ (n - 1) * bb := by omega
        have e4 := Nat.div_le_div_right (c := bb) e3
        rw [Nat.mul_div_cancel _ (show 0 < bb by omega)] at e4
        omega
      have hwD : IntKind.i64.wrap (x - a) = (D : Int) := by rw [hD]; exact IntWalk.i64_in _ (by omega)
      have hbne : ((bb : Int) == 0) = false := beq_eq_false_iff_ne.2 (by omega)
      have hbn0 : ¬ (bb : Int) = 0 := by omega
      have ht1 : Int.tmod (D : Int) (bb : Int) = ((D % bb : Nat) : Int) := by rw [Int.tmod_eq_emod_of_nonneg (by omega)]; simp
      have ht2 : Int.tdiv (D : Int) (bb : Int) = ((D / bb : Nat) : Int) := by rw [Int.tdiv_eq_ediv_of_nonneg (by omega)]; simp
      have ht3 : (D : Int) % (bb : Int) = ((D % bb : Nat) : Int) := by simp
      have ht4 : (D : Int) / (bb : Int) = ((D / bb : Nat) : Int) := by simp
      have hr1 : D % bb < bb := Nat.mod_lt _ (by omega)
      have hb3 : bb ≤ 1000 := by omega
      generalize D % bb = r at *
      generalize D / bb = q at *
      clear hin hD
      by_cases hr : r = 0
      · have HZ := Lib.hid (show vaC s a (bb : Int) n f x = 0 ∧ vaV s a (bb : Int) n f x = f q by rw [HZ.out.1, HZ.out.2, if_pos hr, if_pos hr]; exact ⟨rfl, rfl⟩)
        subst hr
        have hq' : (q : Int) < (n : Int) := by omega
        go_enter Tryd.func15, Tryd.ntmps15
        go_wp2_with fail
        obtain ⟨w0, hw0⟩ : ∃ z, w.alloc (.cells #[.string s, .int .i64 a, .int .i64 (bb : Int), .slice A n c] 26) = z := ⟨_, rfl⟩
        rw [hw0] at HV HX
        (try rw [hw0])
        clear hw0
        obtain ⟨⟨f0, f1, f2, f3⟩, -⟩ := HX.out w0 (Below.refl _ _)
        refine (HV.out).mono ?_; rintro e w1 ⟨rfl, dd, hd1⟩
        have hb1 : Below w0.heap.size w0 w1 := by rw [hd1]; exact below_drewN (Below.refl _ _) dd
        clear hd1
        have HB1 := Lib.hid hb1
        obtain ⟨⟨g0, g1, g2, g3⟩, -, hbw1, hlt1⟩ := HX.out w1 hb1
        have HBw1 := Lib.hid hbw1
        clear f0 f1 f2 f3 hb1 hbw1
        go_wp2_with fail
        refine (HI.out _).mono ?_; rintro e w3 ⟨rfl, rfl⟩
        obtain ⟨⟨m0, m1, m2, m3⟩, hR3, hbw3, -⟩ := HX.out w1 HB1.out
        have HBw3 := Lib.hid hbw3
        have HR3 := Lib.hid hR3
        clear hbw3 hR3
        obtain ⟨b1, o1, hA, _, hcc⟩ := rdF_all HR3.out (by omega)
        subst hA
        have c0 := hcc q hq
        clear hcc
        generalize f q = y at *
        go_upto_region 7 with (fail)
        go_quiet (fail)
        go_wp2_with fail
        go_ret2
        exact RetVa.of HZ.out.1 HZ.out.2 (below_drewN HBw3.out _)
      · have HZ := Lib.hid (show vaC s a (bb : Int) n f x = 3 ∧ vaV s a (bb : Int) n f x = 0 by rw [HZ.out.1, HZ.out.2, if_neg hr, if_neg hr]; exact ⟨rfl, rfl⟩)
        have hr' : ¬ (r : Int) = 0 := by omega
        clear hr
        go_enter Tryd.func15, Tryd.ntmps15
        go_wp2_with fail
        obtain ⟨w0, hw0⟩ : ∃ z, w.alloc (.cells #[.string s, .int .i64 a, .int .i64 (bb : Int), .slice A n c] 26) = z := ⟨_, rfl⟩
        rw [hw0] at HV HX
        (try rw [hw0])
        clear hw0
        obtain ⟨⟨f0, f1, f2, f3⟩, -⟩ := HX.out w0 (Below.refl _ _)
        refine (HV.out).mono ?_; rintro e w1 ⟨rfl, dd, hd1⟩
        have hb1 : Below w0.heap.size w0 w1 := by rw [hd1]; exact below_drewN (Below.refl _ _) dd
        clear hd1
        have HB1 := Lib.hid hb1
        obtain ⟨⟨g0, g1, g2, g3⟩, -, hbw1, hlt1⟩ := HX.out w1 hb1
        have HBw1 := Lib.hid hbw1
        clear f0 f1 f2 f3 hb1 hbw1
        go_wp2_with fail
        refine (HI.out _).mono ?_; rintro e w3 ⟨rfl, rfl⟩
        obtain ⟨⟨m0, m1, m2, m3⟩, hR3, hbw3, -⟩ := HX.out w1 HB1.out
        have HBw3 := Lib.hid hbw3
        have HR3 := Lib.hid hR3
        clear hbw3 hR3
        go_wp2_with fail
        go_ret2
        exact RetVa.of HZ.out.1 HZ.out.2 HBw3.out
end Go.Proofs.YtnhngccfbnnpoaaDoor
/- Append of a row that is read, at a step of a region that draws its order. No program is named here. -/
namespace Go.Proofs.YtnhngccfbnnpoaaDoor
open Go.RowKit

section
variable {P : Program}
theorem wp_apr {w : World} {o : Oper} {a : Act} {K : Act → World → Prop} {Q : Exit → Act → World → Prop} (t e : TypeId) (z : Value) (size bytes : Nat)
    (ht : P.underlying t = some (.slice e)) (hinfo : (P.info? e).map (fun i => (i.zero, i.size, i.bytes)) = some (some z, size, bytes)) (hzs : z.cells.size = size) (hsz : 0 < size)
    (s x : Operand) (ho : o.op = .call { callee := .builtin .append, args := #[s, x], argTypes := #[t, t] })
    (base : Nat) (v : Value) (n : Nat) (xs : List Value) (hs : a.eval s = v) (hown : w.ownsRow base e size v n xs)
    (b off m c : Nat) (cs : List Value) (hx : a.eval x = .slice (some ⟨b, off, none⟩) m c) (hl : cs.length = m * size) (hc : ∀ (i : Nat) (u : Value), cs[i]? = some u → w.cell? ⟨b, off + i, none⟩ = some u) (h1 : ∀ u ∈ cs, u.oneCell' = true)
    (h63 : n + m ≤ maxLen) (hbytes : (n + m) * bytes ≤ 140737488355328) (hbase : base ≤ w.heap.size)
    (h : ∀ v' w', w'.ownsRow base e size v' (n + m) (xs ++ cs) → w.grownBy w' v.ownBlock → K (a.put o.dst v') w') :
    o.wp P a w K Q := by
  obtain ⟨i, hi, hz, h2, h3⟩ := info_parts hinfo
  refine wp_append_own _ s x t ho base e i z size bytes ht hi hz h2 h3 hzs hsz v n xs hs hown ⟨b, off, none⟩ m c cs hx hl (fun j u hu => ?_) h1 h63 hbytes hbase ?_
  · have hadd : (⟨b, off, none⟩ : Addr).add j = ⟨b, off + j, none⟩ := by unfold Addr.add; split <;> simp_all
    rw [hadd]; exact hc j u hu
  · intro v' w' ho' hg' _
    exact h v' w' ho' hg'
theorem step_apr {w : World} {ops : Array Oper} {o : Oper} {a : Act} {K : Act → World → Prop} {Q : Exit → Act → World → Prop} {E : Prop} (t e : TypeId) (z : Value) (size bytes : Nat)
    (ht : P.underlying t = some (.slice e)) (hinfo : (P.info? e).map (fun i => (i.zero, i.size, i.bytes)) = some (some z, size, bytes)) (hzs : z.cells.size = size) (hsz : 0 < size)
    (s x : Operand) (hgd : o.guard = none) (ho : o.op = .call { callee := .builtin .append, args := #[s, x], argTypes := #[t, t] })
    (base : Nat) (v : Value) (n : Nat) (xs : List Value) (hs : a.eval s = v) (hown : w.ownsRow base e size v n xs)
    (b off m c : Nat) (cs : List Value) (hx : a.eval x = .slice (some ⟨b, off, none⟩) m c) (hl : cs.length = m * size) (hc : ∀ (i : Nat) (u : Value), cs[i]? = some u → w.cell? ⟨b, off + i, none⟩ = some u) (h1 : ∀ u ∈ cs, u.oneCell' = true)
    (h63 : n + m ≤ maxLen) (hbytes : (n + m) * bytes ≤ 140737488355328) (hbase : base ≤ w.heap.size)
    (h : ∀ v' w', w'.ownsRow base e size v' (n + m) (xs ++ cs) → w.grownBy w' v.ownBlock → K (a.put o.dst v') w') :
    if Region.wanted o (yielded ops a.tmps) = true then Oper.wp P o a w K Q else E := by
  have hw : Region.wanted o (yielded ops a.tmps) = true := by simp [Region.wanted, hgd]
  rw [if_pos hw]
  exact wp_apr t e z size bytes ht hinfo hzs hsz s x ho base v n xs hs hown b off m c cs hx hl hc h1 h63 hbytes hbase h
end
end Go.Proofs.YtnhngccfbnnpoaaDoor
