/- Mended rows, part 7: pages are drawn. -/
import Derived.Test.YtdljlemgaefbpaaM6
import Derived.Test.YtdljlemgaefbpaaU7
import Derived.Test.YtdljlemgaefbpaaLib7
namespace Go.Proofs.Ytdljlemgaefbpaa
open Go.RowKit Go.Joins
attribute [local go_sem ↓] Go.wp_at_zero Go.wp_at_succ

set_option maxHeartbeats 400000 in
theorem text_c (B g k m : Nat) (l : List ByteArray) (bs : List UInt8) (w : World) (h : SrcAt w B g k bs) (hk : k < 4611686018427387800) (hm : l.length = m) (hm2 : 2 ≤ m) (hm3 : m ≤ 200) :
    Calls Try.prog 156 #[.pointer (some ⟨g, 0, none⟩), .slice (some ⟨w.heap.size, 0, none⟩) m m] (w.alloc (.cells (l.map (Value.string)).toArray 9)) fun e w' => ∃ x : ByteArray, x ∈ l ∧ e = .returned (.string x) ∧ SrcAt w' B g (k + 2) bs ∧ w.grownBy w' (some g) := by
  have hlt := h.lt
  have hbk := (Below.refl w.heap.size w).alloc (Nat.le_refl _) (.cells (l.map (Value.string)).toArray 9)
  have hnc : ∀ i (hi : i < l.length), (w.alloc (.cells (l.map (Value.string)).toArray 9)).cell? ⟨w.heap.size, i, none⟩ = some (.string l[i]) := fun i hi => by
    have := new_cells w (l.map (Value.string)).toArray 9 i (.string l[i]) (by simp [hi])
    rwa [show (⟨w.heap.size, 0, none⟩ : Addr).add i = ⟨w.heap.size, i, none⟩ by unfold Addr.add; split <;> simp_all] at this
  have H := Lib.hid (h.below hbk); clear h
  have Hc := Lib.hid hnc; clear hnc
  have Hg := Lib.hid (fun w' (h : (w.alloc (.cells (l.map (Value.string)).toArray 9)).grownBy w' (some g)) => grown_from_alloc h)
  have hsz : w.heap.size < (w.alloc (.cells (l.map (Value.string)).toArray 9)).heap.size := by simp
  have hm4 : (m : Int) ≤ 200 := by omega
  clear hbk
  generalize w.alloc (.cells (l.map (Value.string)).toArray 9) = wl at *
  go_enter Try.func156, Try.ntmps156
  go_wp2_with fail
  refine (pick_any B g k bs m _ H.out (by omega)).mono ?_; rintro e w1 ⟨x, rfl, ⟨hx0, hx1, _⟩, hs1, hg1⟩
  have Hs1 := Lib.hid hs1; clear hs1
  obtain ⟨i, rfl⟩ : ∃ i : Nat, x = i := ⟨x.toNat, by omega⟩
  have hx2 := hx1 (by omega)
  have hi : i < l.length := by omega
  have hcell := (World.cell?_of_block (a := ⟨w.heap.size, i, none⟩) (hg1.block w.heap.size hsz (fun e => by injection e; omega))).trans (Hc.out i hi)
  have hg2 := Hg.out _ hg1
  have hin := Lib.hid (show l[i] ∈ l from List.getElem_mem hi)
  generalize l[i] = z at *
  clear hx1 hg1
  go_wp2_with fail
  go_ret
  exact ⟨z, hin.out, rfl, Hs1.out, hg2⟩
theorem own_ne {w : World} {base n sz g : Nat} {e t : TypeId} {v : Value} {xs : List Value} {cs : Array Value} {f : Nat × Nat} (h : w.ownsRow base e sz v n xs) (hg : w.heap[g]? = some (.cells cs t f)) (hne : e ≠ t) : v.ownBlock ≠ some g := by
  rcases h.2 with ⟨rfl, _⟩ | ⟨g', cap, cur, rfl, _, h1, _⟩
  · simp [Value.ownBlock]
  · intro h2
    simp [Value.ownBlock] at h2
    subst h2
    rw [h1] at hg
    simp at hg
    exact hne hg.2.1

/-- a page under way, a result's block beside it -/
structure PgAt (gs : Nat) (w wr : World) (gz gp : Nat) (s : ByteArray) (a b : Int) (v : Value) (n : Nat) (f : Nat → Int) : Prop where
  res : wr.heap[gz]? = some (.cells #[.string ⟨#[]⟩, .int .i64 0, .int .i64 0, .slice none 0 0] 49 (0, 0))
  own : wr.heap[gp]? = some (.cells #[.string s, .int .i64 a, .int .i64 b, v] 49 (0, 0))
  row : wr.ownsRow w.heap.size 2 1 v n (tab n f)
  gr : w.grownBy wr (some gs)
theorem PgAt.pick {gs : Nat} {w wr w2 : World} {gz gp : Nat} {s : ByteArray} {a b : Int} {v : Value} {n : Nat} {f : Nat → Int} (h : PgAt gs w wr gz gp s a b v n f) (hgw : gs < w.heap.size) (hz : w.heap.size ≤ gz) (hp : w.heap.size ≤ gp) (h2 : wr.grownBy w2 (some gs)) : PgAt gs w w2 gz gp s a b v n f :=
  ⟨(h2.block gz (Array.getElem?_eq_some_iff.1 h.res).1 (fun e => by injection e; omega)).trans h.res, (h2.block gp (Array.getElem?_eq_some_iff.1 h.own).1 (fun e => by injection e; omega)).trans h.own, own_gs h.row h2 hgw, grown_trans h.gr h2⟩
theorem pg_ne {w wr : World} {v : Value} {n g : Nat} {f : Nat → Int} {cs : Array Value} {t : TypeId} (h : wr.ownsRow w.heap.size 2 1 v n (tab n f)) (hg : wr.heap[g]? = some (.cells cs t (0, 0))) (ht : t ≠ 2) : v.ownBlock ≠ some g := own_ne h hg ht.symm
theorem PgAt.field {gs : Nat} {w wr : World} {gz gp : Nat} {s : ByteArray} {a b : Int} {v : Value} {n : Nat} {f : Nat → Int} (h : PgAt gs w wr gz gp s a b v n f) (hp : w.heap.size ≤ gp) (hzp : gz ≠ gp) (i : Nat) (x : Value) {s' : ByteArray} {a' b' : Int} {v' : Value} {n' : Nat} {f' : Nat → Int}
    (he : (#[Value.string s, .int .i64 a, .int .i64 b, v].setIfInBounds i x) = #[Value.string s', .int .i64 a', .int .i64 b', v']) (hr : wr.ownsRow w.heap.size 2 1 v' n' (tab n' f')) : PgAt gs w (wr.setCell ⟨gp, i, none⟩ x) gz gp s' a' b' v' n' f' :=
  ⟨(Below.heap_setCell wr ⟨gp, i, none⟩ x gz hzp).trans h.res, by have := heap_setCell_same wr gp i _ _ x h.own; rw [he] at this; exact this, hr.kept (grown_set wr gp i x) (.inr (pg_ne hr h.own (by decide))), grown_setCell h.gr (p := ⟨gp, i, none⟩) (.inr hp) x⟩
theorem PgAt.grow {gs : Nat} {w wr w' : World} {gz gp : Nat} {s : ByteArray} {a b : Int} {v v' : Value} {n : Nat} {f f' : Nat → Int} {x : Int} (h : PgAt gs w wr gz gp s a b v n f) (hp : w.heap.size ≤ gp) (hzp : gz ≠ gp)
    (h2 : w'.ownsRow w.heap.size 2 1 v' (n + 1) (tab n f ++ [.int .i64 x])) (h3 : wr.grownBy w' v.ownBlock) (hf : tab (n + 1) f' = tab n f ++ [.int .i64 x]) :
    w'.cell? ⟨gp, 3, none⟩ = some v ∧ w'.frozen? ⟨gp, 3, none⟩ = false ∧ PgAt gs w (w'.setCell ⟨gp, 3, none⟩ v') gz gp s a b v' (n + 1) f' := by
  have hr0 := (h3.block gz (Array.getElem?_eq_some_iff.1 h.res).1 (fun e => pg_ne h.row h.res (by decide) e.symm)).trans h.res
  have hg0 := (h3.block gp (Array.getElem?_eq_some_iff.1 h.own).1 (fun e => pg_ne h.row h.own (by decide) e.symm)).trans h.own
  obtain ⟨_, _, _, q3, qz⟩ := blk4 hg0
  have hrow : w'.ownsRow w.heap.size 2 1 v' (n + 1) (tab (n + 1) f') := by rw [hf]; exact h2
  have hgr : w.grownBy w' (some gs) := grown_own h.gr h.row h3
  exact ⟨q3, qz 3, ⟨(Below.heap_setCell w' ⟨gp, 3, none⟩ v' gz hzp).trans hr0, heap_setCell_same w' gp 3 _ _ v' hg0, hrow.kept (grown_set w' gp 3 v') (.inr (pg_ne hrow hg0 (by decide))), grown_setCell hgr (p := ⟨gp, 3, none⟩) (.inr hp) v'⟩⟩
theorem PgAt.grow' {gs : Nat} {w wr w' : World} {gz gp : Nat} {s : ByteArray} {a b : Int} {v v' : Value} {n : Nat} {f : Nat → Int} {x : Int} (h : PgAt gs w wr gz gp s a b v n f) (hp : w.heap.size ≤ gp) (hzp : gz ≠ gp)
    (h2 : w'.ownsRow w.heap.size 2 1 v' (n + 1) (tab n f ++ [.int .i64 x])) (h3 : wr.grownBy w' v.ownBlock) :
    w'.cell? ⟨gp, 3, none⟩ = some v ∧ w'.frozen? ⟨gp, 3, none⟩ = false ∧ ∃ f', PgAt gs w (w'.setCell ⟨gp, 3, none⟩ v') gz gp s a b v' (n + 1) f' := by
  obtain ⟨f', hf⟩ := tab_more n f x
  obtain ⟨a1, a2, a3⟩ := h.grow hp hzp h2 h3 hf
  exact ⟨a1, a2, f', a3⟩
/-- a page is drawn -/
def DrawnP (L M : Nat) (w : World) (B gs K : Nat) (bs : List UInt8) (e : Ending) (w' : World) : Prop :=
  ∃ s a b v n f, e = .returned (.agg #[.string s, .int .i64 a, .int .i64 b, v]) ∧ s.size ≤ 1000 ∧ L ≤ n ∧ n ≤ M ∧ w'.ownsRow w.heap.size 2 1 v n (tab n f) ∧ SrcAt w' B gs K bs ∧ w.grownBy w' (some gs)
/-- .. the end of it -/
theorem PgAt.done {gs B K : Nat} {bs : List UInt8} {w wr : World} {gz gp : Nat} {s : ByteArray} {a b : Int} {v : Value} {n : Nat} {f : Nat → Int} (h : PgAt gs w wr gz gp s a b v n f) (hs : SrcAt wr B gs K bs) (hgw : gs < w.heap.size) (hz : w.heap.size ≤ gz) :
    ∃ W, W = ((((wr.setCell ⟨gz, 0, none⟩ (.string s)).setCell ⟨gz, 1, none⟩ (.int .i64 a)).setCell ⟨gz, 2, none⟩ (.int .i64 b)).setCell ⟨gz, 3, none⟩ v) ∧ W.cell? ⟨gz, 0, none⟩ = some (.string s) ∧ W.cell? ⟨gz, 1, none⟩ = some (.int .i64 a) ∧ W.cell? ⟨gz, 2, none⟩ = some (.int .i64 b) ∧ W.cell? ⟨gz, 3, none⟩ = some v ∧ W.ownsRow w.heap.size 2 1 v n (tab n f) ∧ SrcAt W B gs K bs ∧ w.grownBy W (some gs) := by
  obtain ⟨e0, e1, e2, e3, _⟩ := blk4 (set4 h.res (.string s) (.int .i64 a) (.int .i64 b) v)
  have hg4 : wr.grownBy ((((wr.setCell ⟨gz, 0, none⟩ (.string s)).setCell ⟨gz, 1, none⟩ (.int .i64 a)).setCell ⟨gz, 2, none⟩ (.int .i64 b)).setCell ⟨gz, 3, none⟩ v) (some gz) :=
    grown_trans (grown_set wr gz 0 (.string s)) (grown_trans (grown_set _ gz 1 (.int .i64 a)) (grown_trans (grown_set _ gz 2 (.int .i64 b)) (grown_set _ gz 3 v)))
  exact ⟨_, rfl, e0, e1, e2, e3, h.row.kept hg4 (.inr (pg_ne h.row h.res (by decide))), hs.grown hg4 (fun z hz' => by cases hz'; omega),
    grown_setCell (grown_setCell (grown_setCell (grown_setCell h.gr (p := ⟨gz, 0, none⟩) (.inr hz) _) (p := ⟨gz, 1, none⟩) (.inr hz) _) (p := ⟨gz, 2, none⟩) (.inr hz) _) (p := ⟨gz, 3, none⟩) (.inr hz) _⟩
set_option maxRecDepth 100000 in
set_option maxHeartbeats 3200000 in
theorem l18Draw_c (B gs k : Nat) (bs : List UInt8) (w : World) (h : SrcAt w B gs k bs) (hk : k < 4611686018427380000) : Calls Try.prog 168 #[.pointer (some ⟨gs, 0, none⟩), .int .i64 16] w (DrawnP 1 16 w B gs (k + 80) bs) := by
  have hgl := h.lt
  have hA := (Below.refl w.heap.size w).alloc (Nat.le_refl _) (.cells #[.string ⟨#[]⟩, .int .i64 0, .int .i64 0, .slice none 0 0] 49)
  have HZ1 := Lib.hid (heap_alloc_new w (.cells #[.string ⟨#[]⟩, .int .i64 0, .int .i64 0, .slice none 0 0] 49))
  have Hg1 := Lib.hid (grown_of_below hA (some gs))
  have Hs1 := Lib.hid (h.below hA)
  have hlt1 : w.heap.size < (w.alloc (.cells #[.string ⟨#[]⟩, .int .i64 0, .int .i64 0, .slice none 0 0] 49)).heap.size := by simp
  have Hw1 := Lib.hid (show (w.alloc (.cells #[.string ⟨#[]⟩, .int .i64 0, .int .i64 0, .slice none 0 0] 49)).heap.size = w.heap.size + 1 by simp)
  clear h hA
  go_enter Try.func168, Try.ntmps168
  go_wp2_with fail
  generalize w.alloc (.cells #[.string ⟨#[]⟩, .int .i64 0, .int .i64 0, .slice none 0 0] 49) = w1 at *
  rw [← Hw1.out]
  refine (text_c B gs k 3 [⟨#[115, 113, 117, 97, 114, 101, 115]⟩, ⟨#[99, 117, 98, 101, 115]⟩, ⟨#[116, 45, 49]⟩] bs w1 Hs1.out (by omega) rfl (by omega) (by omega)).mono ?_; rintro e w2 ⟨s, hsl, rfl, hs2, hg2⟩
  have hss : s.size ≤ 1000 := by
    simp only [List.mem_cons, List.not_mem_nil, or_false] at hsl
    rcases hsl with rfl | rfl | rfl <;> decide
  have Hs2 := Lib.hid hs2
  have Hg2 := Lib.hid (grown_trans Hg1.out hg2)
  have HZ2 := Lib.hid ((hg2.block w.heap.size hlt1 (fun e => by injection e; omega)).trans HZ1.out)
  have hlt2 := Nat.lt_of_lt_of_le hlt1 hg2.size
  clear hs2 hg2 hsl HZ1 Hg1 Hs1
  go_wp2_with fail
  refine (pick_any B gs (k + 2) bs 40 _ Hs2.out (by omega)).mono ?_; rintro e w3 ⟨a0, rfl, ⟨ha0, ha1, _⟩, hs3, hg3⟩
  have ha2 := ha1 (by omega)
  have Hs3 := Lib.hid hs3
  have Hg3 := Lib.hid (grown_trans Hg2.out hg3)
  have HZ3 := Lib.hid ((hg3.block w.heap.size hlt2 (fun e => by injection e; omega)).trans HZ2.out)
  have hlt3 := Nat.lt_of_lt_of_le hlt2 hg3.size
  clear hs3 hg3 ha1 HZ2 Hg2 Hs2
  go_wp2_with fail
  refine (pick_any B gs (k + 2 + 2) bs 4 _ Hs3.out (by omega)).mono ?_; rintro e w4 ⟨b0, rfl, ⟨hb0, hb1, _⟩, hs4, hg4⟩
  have hb2 := hb1 (by omega)
  have HZ4 := (hg4.block w.heap.size hlt3 (fun e => by injection e; omega)).trans HZ3.out
  have hg4' := grown_trans Hg3.out hg4
  have hA := (Below.refl w4.heap.size w4).alloc (Nat.le_refl _) (.cells #[.string s, .int .i64 (a0 - 10), .int .i64 (1 + b0), .slice none 0 0] 49)
  have hlt4 := Nat.lt_of_lt_of_le hlt3 hg4.size
  have Hp := Lib.hid (show PgAt gs w (w4.alloc (.cells #[.string s, .int .i64 (a0 - 10), .int .i64 (1 + b0), .slice none 0 0] 49)) w.heap.size w4.heap.size s (a0 - 10) (1 + b0) (.slice none 0 0) 0 (fun _ => 0) from
    ⟨(hA.block w.heap.size hlt4).trans HZ4, heap_alloc_new w4 _, World.ownsRow_nil _ _ _ _, grown_below hg4' hA⟩)
  have Hs5 := Lib.hid (hs4.below hA)
  clear hs4 hg4 hb1 HZ3 HZ4 Hg3 Hs3 hg4' hA hlt1 hlt2 hlt3
  go_wp2_with fail
  generalize w4.alloc (.cells #[.string s, .int .i64 (a0 - 10), .int .i64 (1 + b0), .slice none 0 0] 49) = w5 at *
  generalize w4.heap.size = gp at *
  have hzp : w.heap.size ≠ gp := by omega
  have hpp : w.heap.size ≤ gp := by omega
  generalize a0 - 10 = a at *
  generalize 1 + b0 = b at *
  refine (pick_any B gs (k + 2 + 2 + 2) bs 5 _ Hs5.out (by omega)).mono ?_; rintro e w6 ⟨c1, rfl, ⟨hc0, hc1, _⟩, hs6, hg6⟩
  have hc2 := hc1 (by omega)
  have Hp6 := Lib.hid (Hp.out.pick hgl (Nat.le_refl _) hpp hg6)
  have Hs6 := Lib.hid hs6
  clear hs6 hg6 hc1 Hp Hs5
  go_wp2_with fail
  refine (pick_any B gs (k + 2 + 2 + 2 + 2) bs 9 _ Hs6.out (by omega)).mono ?_; rintro e w7 ⟨d1, rfl, ⟨hd0, hd1, _⟩, hs7, hg7⟩
  have hd2 := hd1 (by omega)
  have Hp7 := Lib.hid (Hp6.out.pick hgl (Nat.le_refl _) hpp hg7)
  have Hs7 := Lib.hid hs7
  clear hs7 hg7 hd1 Hp6 Hs6
  go_wp2_with fail
  refine (pick_any B gs (k + 2 + 2 + 2 + 2 + 2) bs 3 _ Hs7.out (by omega)).mono ?_; rintro e w8 ⟨e1, rfl, ⟨he0, he1, _⟩, hs8, hg8⟩
  have he2 := he1 (by omega)
  have Hp8 := Lib.hid (Hp7.out.pick hgl (Nat.le_refl _) hpp hg8)
  have Hs8 := Lib.hid hs8
  clear hs8 hg8 he1 Hp7 Hs7
  go_wp2_with fail
  refine (pick_any B gs (k + 2 + 2 + 2 + 2 + 2 + 2) bs 16 _ Hs8.out (by omega)).mono ?_; rintro e w9 ⟨m0, rfl, ⟨hm0, hm1, _⟩, hs9, hg9⟩
  have hm2 := hm1 (by omega)
  obtain ⟨m, rfl⟩ : ∃ m : Nat, m0 = (m : Int) := ⟨m0.toNat, by omega⟩
  have Hp9 := Lib.hid (Hp8.out.pick hgl (Nat.le_refl _) hpp hg9)
  have Hs9 := Lib.hid hs9
  clear hs9 hg9 hm1 Hp8 Hs8
  go_wp2_with fail
  generalize c1 - 1 = c at *
  generalize d1 - 4 = d at *
  go_loopw [9] (fun i wr => ∃ (j q : Nat) (v : Value) (f : Nat → Int), j + q = m + 1 ∧ i = .int .i64 (q : Int) ∧ PgAt gs w wr w.heap.size gp s a b v j f ∧ SrcAt wr B gs (k + 14 + 4 * j) bs) (fun i _ => (intOf i).toNat)
  case atStart => exact ⟨0, m + 1, _, _, by omega, by congr 1; omega, Hp9.out, Hs9.out.more (by omega)⟩
  case round =>
    obtain ⟨j, q, v, f, hjq, rfl, hpg, hsr⟩ := hrel
    obtain ⟨A, cc, rfl⟩ := own_sl hpg.row
    have Hpg := Lib.hid hpg
    have Hsr := Lib.hid hsr
    have hj17 : j ≤ 16 := by omega
    have Hjq := Lib.hid hjq
    obtain ⟨p0, p1, p2, p3, _⟩ := blk4 hpg.own
    obtain ⟨r0, r1, r2, r3, rz⟩ := blk4 hpg.res
    have y0 := rz 0
    have y1 := rz 1
    have y2 := rz 2
    have y3 := rz 3
    clear hsr rz
    by_cases hq : q = 0
    · subst hq
      have hj16 : j ≤ 16 := hj17
      have hj1 : 1 ≤ j := by omega
      obtain ⟨W, hW, e0, e1, e2, e3, hrow, hsw, hgw⟩ := hpg.done Hsr.out hgl (Nat.le_refl _)
      subst hW
      have He0 := Lib.hid e0
      have He1 := Lib.hid e1
      have He2 := Lib.hid e2
      have He3 := Lib.hid e3
      have Hfin := Lib.hid (show DrawnP 1 16 w B gs (k + 80) bs (.returned (.agg #[.string s, .int .i64 a, .int .i64 b, .slice A j cc])) _ from ⟨s, a, b, _, j, f, rfl, hss, hj1, hj16, hrow, hsw.more (by omega), hgw⟩)
      clear e0 e1 e2 e3 hrow hsw hgw hpg hjq
      go_wp2_with fail
      exact bodyPost_ret (v := .agg #[.string s, .int .i64 a, .int .i64 b, .slice A j cc]) (by simp [results, Try.results168, go_sem, He0.out, He1.out, He2.out, He3.out]) rfl Hfin.out
    · have hq1 : (0 : Int) < (q : Int) := by omega
      have hq9 : (q : Int) ≤ 17 := by omega
      clear hpg hjq
      go_upto_region 9 with (fail)
      obtain ⟨wo, hwo⟩ : ∃ x, x = wr := ⟨_, rfl⟩
      go_cut [11] (fun s11 wx => ∃ v : Int, s11 = .int .i64 v ∧ wx = wr)
      case first =>
        go_wp2_with fail
        go_meet
        exact ⟨_, rfl, rfl⟩
      case rest =>
        obtain ⟨y, rfl, rfl⟩ := hcut
        clear hwo p0 p1 p2 p3 r0 r1 r2 r3 y0 y1 y2 y3
        have hmx : j + 1 ≤ maxLen := by simp [maxLen]; omega
        have hby : (j + 1) * 8 ≤ 140737488355328 := by omega
        go_wp2_with fail
        refine (one_any B gs (k + 14 + 4 * j) bs 12 _ Hsr.out (by omega)).mono ?_; rintro e w2 ⟨t, rfl, hs2, hg2⟩
        have Hp2 := Lib.hid (Hpg.out.pick hgl (Nat.le_refl _) hpp hg2)
        have Hs2 := Lib.hid hs2
        clear hs2 hg2
        cases t with
        | false =>
          obtain ⟨_, _, _, p3, _⟩ := blk4 Hp2.out.own
          go_wp2_with (at_builtin; refine wpList_apd 24 2 _ 1 8 Try.underlying24 infoD rfl (by omega) _ _ rfl rfl w.heap.size _ j _ rfl Hp2.out.row #[.int .i64 y] 1 1 rfl rfl (by simp [Value.oneCell']) hmx hby Hp2.out.gr.size ?_; intro v7 w7 hown7 hg7; obtain ⟨A7, c7, rfl⟩ := own_sl hown7; obtain ⟨k1, k2, f', k3⟩ := Hp2.out.grow' hpp hzp hown7 hg7; have Hk3 := Lib.hid k3; have Hs7 := Lib.hid ((Hs2.out.grown hg7 (fun z hz => by have := (Hp2.out.row.lt z hz).1; omega)).grown (grown_set w7 gp 3 (.slice A7 (j + 1) c7)) (fun z hz => by cases hz; omega)); clear hown7 hg7 k3)
          go_roundw
          case rel => exact ⟨j + 1, q - 1, _, f', by have := Hjq.out; omega, by congr 1; omega, Hk3.out, Hs7.out.more (by omega)⟩
          case measure => simp [intOf]; omega
        | true =>
          go_upto_region 11 with (fail)
          go_cut [11] (fun s11 wx => ∃ v : Int, s11 = .int .i64 v ∧ PgAt gs w wx w.heap.size gp s a b (.slice A j cc) j f ∧ SrcAt wx B gs (k + 14 + 4 * j + 2 + 2) bs)
          case first =>
            go_wp2_with fail
            refine (pick_any B gs (k + 14 + 4 * j + 2) bs 5 _ Hs2.out (by omega)).mono ?_; rintro e w3 ⟨y5, rfl, _, hs3, hg3⟩
            have Hf := Lib.hid (And.intro (Hp2.out.pick hgl (Nat.le_refl _) hpp hg3) hs3)
            clear hs3 hg3
            go_wp2_with fail
            go_meet
            exact ⟨_, rfl, Hf.out.1, Hf.out.2⟩
          case rest =>
            obtain ⟨y, rfl, hp3, hs3⟩ := hcut
            have Hp3 := Lib.hid hp3
            have Hs3 := Lib.hid hs3
            clear hp3 hs3
            obtain ⟨_, _, _, p3, _⟩ := blk4 Hp3.out.own
            go_wp2_with (at_builtin; refine wpList_apd 24 2 _ 1 8 Try.underlying24 infoD rfl (by omega) _ _ rfl rfl w.heap.size _ j _ rfl Hp3.out.row #[.int .i64 y] 1 1 rfl rfl (by simp [Value.oneCell']) hmx hby Hp3.out.gr.size ?_; intro v7 w7 hown7 hg7; obtain ⟨A7, c7, rfl⟩ := own_sl hown7; obtain ⟨k1, k2, f', k3⟩ := Hp3.out.grow' hpp hzp hown7 hg7; have Hk3 := Lib.hid k3; have Hs7 := Lib.hid ((Hs3.out.grown hg7 (fun z hz => by have := (Hp3.out.row.lt z hz).1; omega)).grown (grown_set w7 gp 3 (.slice A7 (j + 1) c7)) (fun z hz => by cases hz; omega)); clear hown7 hg7 k3)
            go_roundw
            case rel => exact ⟨j + 1, q - 1, _, f', by have := Hjq.out; omega, by congr 1; omega, Hk3.out, Hs7.out.more (by omega)⟩
            case measure => simp [intOf]; omega
end Go.Proofs.Ytdljlemgaefbpaa
