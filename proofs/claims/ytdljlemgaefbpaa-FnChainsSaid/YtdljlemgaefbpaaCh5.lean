/- Chains, part 5: a chain is moved. -/
import Derived.Test.YtdljlemgaefbpaaCh4
import Derived.Test.YtdljlemgaefbpaaFew7
import Derived.Deep.RegionLaw
namespace Go.Proofs.Ytdljlemgaefbpaa
open Go.RowKit Go.Joins

/-- the places behind j rounds -/
def mvr (p q : Nat → Int) (tz : Int) (j : Nat) : Nat → Int := fun i => if i ≤ j then mv p q tz i else q i
theorem mvr_0 (p q : Nat → Int) (tz : Int) : put q 0 tz = mvr p q tz 0 := by
  funext i
  show (if i = 0 then tz else q i) = if i ≤ 0 then mv p q tz i else q i
  by_cases h : i = 0
  · subst h; simp [mv]
  · rw [if_neg h, if_neg (by omega)]
theorem mvr_1 (p q : Nat → Int) (tz : Int) (j : Nat) : put (mvr p q tz j) (j + 1) (mv p q tz (j + 1)) = mvr p q tz (j + 1) := by
  funext i
  show (if i = j + 1 then mv p q tz (j + 1) else if i ≤ j then mv p q tz i else q i) = if i ≤ j + 1 then mv p q tz i else q i
  by_cases h : i = j + 1
  · subst h; simp
  · by_cases h2 : i ≤ j
    · rw [if_neg h, if_pos h2, if_pos (by omega)]
    · rw [if_neg h, if_neg h2, if_neg (by omega)]
/-- a moved chain under way -/
structure MvAt (w wr : World) (G gp cp gq cq n : Nat) (p f : Nat → Int) : Prop where
  res : wr.heap[w.heap.size + 1]? = some (.cells #[.slice none 0 0, .slice none 0 0] 26 (0, 0))
  own : wr.heap[G]? = some (.cells #[.slice (some ⟨gp, 0, none⟩) n cp, .slice (some ⟨gq, 0, none⟩) (n + 1) cq] 26 (0, 0))
  rp : wr.ownsRow w.heap.size 2 1 (.slice (some ⟨gp, 0, none⟩) n cp) n (tab n p)
  rq : wr.ownsRow w.heap.size 2 1 (.slice (some ⟨gq, 0, none⟩) (n + 1) cq) (n + 1) (tab (n + 1) f)
  ne : gp ≠ gq
  bel : Below w.heap.size w wr
theorem MvAt.start {w w2 w3 w4 : World} {gp cp gq cq n : Nat} {p q : Nat → Int} (hres : w2.heap[w.heap.size + 1]? = some (.cells #[.slice none 0 0, .slice none 0 0] 26 (0, 0))) (hb2 : Below w.heap.size w w2)
    (ho3 : w3.ownsRow w2.heap.size 2 1 (.slice (some ⟨gp, 0, none⟩) n cp) n (tab n p)) (hb3 : Below w2.heap.size w2 w3) (ho4 : w4.ownsRow w3.heap.size 2 1 (.slice (some ⟨gq, 0, none⟩) (n + 1) cq) (n + 1) (tab (n + 1) q)) (hb4 : Below w3.heap.size w3 w4) :
    MvAt w (w4.alloc (.cells #[.slice (some ⟨gp, 0, none⟩) n cp, .slice (some ⟨gq, 0, none⟩) (n + 1) cq] 26)) w4.heap.size gp cp gq cq n p q := by
  have hal := (Below.refl w4.heap.size w4).alloc (Nat.le_refl _) (.cells #[.slice (some ⟨gp, 0, none⟩) n cp, .slice (some ⟨gq, 0, none⟩) (n + 1) cq] 26)
  have hlt := (Array.getElem?_eq_some_iff.1 hres).1
  have h24 := hb3.trans (hb4.mono hb3.size)
  have h1 := (ho3.lt gp rfl).2
  have h2 := (ho4.lt gq rfl).1
  refine ⟨(hal.block _ (Nat.lt_of_lt_of_le hlt h24.size)).trans ((h24.block _ hlt).trans hres), heap_alloc_new w4 _, ownsRow_le (own_below (own_below ho3 hb4) hal) hb2.size, ownsRow_le (own_below ho4 hal) (Nat.le_trans hb2.size hb3.size), by omega, (hb2.trans (h24.mono hb2.size)).trans (hal.mono (Nat.le_trans hb2.size h24.size))⟩
/-- the chain's new block was made ahead of its rows -/
theorem MvAt.fill {w w4 : World} {G gp cp gq cq n : Nat} {p q : Nat → Int} (hres : w4.heap[w.heap.size + 1]? = some (.cells #[.slice none 0 0, .slice none 0 0] 26 (0, 0))) (hG : w4.heap[G]? = some (.cells #[.slice none 0 0, .slice none 0 0] 26 (0, 0))) (hne : w.heap.size + 1 < G)
    (hp : w4.ownsRow w.heap.size 2 1 (.slice (some ⟨gp, 0, none⟩) n cp) n (tab n p)) (hq : w4.ownsRow w.heap.size 2 1 (.slice (some ⟨gq, 0, none⟩) (n + 1) cq) (n + 1) (tab (n + 1) q)) (hpq : gp ≠ gq) (hb : Below w.heap.size w w4) :
    MvAt w ((w4.setCell ⟨G, 0, none⟩ (.slice (some ⟨gp, 0, none⟩) n cp)).setCell ⟨G, 1, none⟩ (.slice (some ⟨gq, 0, none⟩) (n + 1) cq)) G gp cp gq cq n p q := by
  have hg : w4.grownBy ((w4.setCell ⟨G, 0, none⟩ (.slice (some ⟨gp, 0, none⟩) n cp)).setCell ⟨G, 1, none⟩ (.slice (some ⟨gq, 0, none⟩) (n + 1) cq)) (some G) :=
    ⟨rfl, rfl, rfl, by simp [World.setCell], fun i _ hi => by
      have hi' : i ≠ G := fun e => hi (by rw [e])
      rw [Below.heap_setCell _ _ _ _ hi', Below.heap_setCell _ _ _ _ hi']⟩
  have n1 := own_ne hp hG (by decide)
  have n2 := own_ne hq hG (by decide)
  have hne' : w.heap.size + 1 ≠ G := by omega
  exact ⟨(Below.heap_setCell _ _ _ _ hne').trans ((Below.heap_setCell _ _ _ _ hne').trans hres), heap_setCell_same _ G 1 _ _ _ (heap_setCell_same w4 G 0 _ _ _ hG), hp.kept hg (.inr (fun e => n1 (by simpa [Value.ownBlock] using e))), hq.kept hg (.inr (fun e => n2 (by simpa [Value.ownBlock] using e))), hpq, (hb.setCell (p := ⟨G, 0, none⟩) (by show w.heap.size ≤ G; omega) _).setCell (p := ⟨G, 1, none⟩) (by show w.heap.size ≤ G; omega) _⟩
abbrev nilC : Obj := .cells #[.slice none 0 0, .slice none 0 0] 26 (0, 0)
theorem MvAt.startA {w w2 w3 w4 : World} {gp cp gq cq n : Nat} {p q : Nat → Int} (hres : w2.heap[w.heap.size + 1]? = some nilC) (hb2 : Below w.heap.size w w2) (w1 : World) (he : w1 = w2.alloc nilC)
    (ho3 : w3.ownsRow w1.heap.size 2 1 (.slice (some ⟨gp, 0, none⟩) n cp) n (tab n p)) (hb3 : Below w1.heap.size w1 w3) (ho4 : w4.ownsRow w3.heap.size 2 1 (.slice (some ⟨gq, 0, none⟩) (n + 1) cq) (n + 1) (tab (n + 1) q)) (hb4 : Below w3.heap.size w3 w4) :
    MvAt w ((w4.setCell ⟨w2.heap.size, 0, none⟩ (.slice (some ⟨gp, 0, none⟩) n cp)).setCell ⟨w2.heap.size, 1, none⟩ (.slice (some ⟨gq, 0, none⟩) (n + 1) cq)) w2.heap.size gp cp gq cq n p q := by
  have hal := (Below.refl w2.heap.size w2).alloc (Nat.le_refl _) nilC
  rw [← he] at hal
  have hlt := (Array.getElem?_eq_some_iff.1 hres).1
  have h14 := hb3.trans (hb4.mono hb3.size)
  have hs : w1.heap.size = w2.heap.size + 1 := by rw [he]; simp
  have hn := heap_alloc_new w2 nilC
  rw [← he] at hn
  have h1 := (ho3.lt gp rfl).2
  have h2 := (ho4.lt gq rfl).1
  exact MvAt.fill ((h14.block _ (by omega)).trans ((hal.block _ hlt).trans hres)) ((h14.block _ (by omega)).trans hn) hlt (ownsRow_le (own_below ho3 hb4) (by have := hb2.size; omega)) (ownsRow_le ho4 (by have := hb2.size; have := hb3.size; omega)) (by omega) ((hb2.trans (hal.mono hb2.size)).trans (h14.mono (by have := hb2.size; omega)))
theorem MvAt.startB {w w2 w3 w4 : World} {gp cp gq cq n : Nat} {p q : Nat → Int} (hres : w2.heap[w.heap.size + 1]? = some nilC) (hb2 : Below w.heap.size w w2)
    (ho3 : w3.ownsRow w2.heap.size 2 1 (.slice (some ⟨gp, 0, none⟩) n cp) n (tab n p)) (hb3 : Below w2.heap.size w2 w3) (w1 : World) (he : w1 = w3.alloc nilC) (ho4 : w4.ownsRow w1.heap.size 2 1 (.slice (some ⟨gq, 0, none⟩) (n + 1) cq) (n + 1) (tab (n + 1) q)) (hb4 : Below w1.heap.size w1 w4) :
    MvAt w ((w4.setCell ⟨w3.heap.size, 0, none⟩ (.slice (some ⟨gp, 0, none⟩) n cp)).setCell ⟨w3.heap.size, 1, none⟩ (.slice (some ⟨gq, 0, none⟩) (n + 1) cq)) w3.heap.size gp cp gq cq n p q := by
  have hal := (Below.refl w3.heap.size w3).alloc (Nat.le_refl _) nilC
  rw [← he] at hal
  have hlt := (Array.getElem?_eq_some_iff.1 hres).1
  have hs : w1.heap.size = w3.heap.size + 1 := by rw [he]; simp
  have hn := heap_alloc_new w3 nilC
  rw [← he] at hn
  have h1 := (ho3.lt gp rfl).2
  have h2 := (ho4.lt gq rfl).1
  have hz := hb3.size
  exact MvAt.fill ((hb4.block _ (by omega)).trans ((hal.block _ (by omega)).trans ((hb3.block _ hlt).trans hres))) ((hb4.block _ (by omega)).trans hn) (by omega) (ownsRow_le (own_below (own_below ho3 hal) hb4) hb2.size) (ownsRow_le ho4 (by have := hb2.size; omega)) (by omega) (((hb2.trans (hb3.mono hb2.size)).trans (hal.mono (by have := hb2.size; omega))).trans (hb4.mono (by have := hb2.size; omega)))
theorem MvAt.put {w wr : World} {G gp cp gq cq n : Nat} {p f : Nat → Int} (h : MvAt w wr G gp cp gq cq n p f) (i : Nat) (x : Int) : MvAt w (wr.setCell ⟨gq, i, none⟩ (.int .i64 x)) G gp cp gq cq n p (put f i x) := by
  obtain ⟨h1, h2⟩ := h.rq.stored i (.int .i64 x)
  rw [tab_set] at h1
  have n1 := own_ne h.rq h.res (by decide)
  have n2 := own_ne h.rq h.own (by decide)
  simp [Value.ownBlock] at n1 n2
  exact ⟨(Below.heap_setCell _ _ _ _ (fun e => n1 e.symm)).trans h.res, (Below.heap_setCell _ _ _ _ (fun e => n2 e.symm)).trans h.own, h.rp.kept h2 (.inr (by simp [Value.ownBlock]; exact h.ne)), h1, h.ne, h.bel.setCell (p := ⟨gq, i, none⟩) (h.rq.lt gq rfl).1 _⟩
theorem MvAt.drew {w wr : World} {G gp cp gq cq n : Nat} {p f : Nat → Int} (h : MvAt w wr G gp cp gq cq n p f) : MvAt w wr.drew G gp cp gq cq n p f := ⟨h.res, h.own, h.rp.drew, h.rq.drew, h.ne, h.bel.drew⟩
theorem MvAt.done {w wr : World} {G gp cp gq cq n : Nat} {p f : Nat → Int} (h : MvAt w wr G gp cp gq cq n p f) (x y : Value) : ((wr.setCell ⟨w.heap.size + 1, 0, none⟩ x).setCell ⟨w.heap.size + 1, 1, none⟩ y).cell? ⟨w.heap.size + 1, 0, none⟩ = some x ∧ ((wr.setCell ⟨w.heap.size + 1, 0, none⟩ x).setCell ⟨w.heap.size + 1, 1, none⟩ y).cell? ⟨w.heap.size + 1, 1, none⟩ = some y ∧
    ((wr.setCell ⟨w.heap.size + 1, 0, none⟩ x).setCell ⟨w.heap.size + 1, 1, none⟩ y).ownsRow w.heap.size 2 1 (.slice (some ⟨gp, 0, none⟩) n cp) n (tab n p) ∧ ((wr.setCell ⟨w.heap.size + 1, 0, none⟩ x).setCell ⟨w.heap.size + 1, 1, none⟩ y).ownsRow w.heap.size 2 1 (.slice (some ⟨gq, 0, none⟩) (n + 1) cq) (n + 1) (tab (n + 1) f) ∧
    Below w.heap.size w ((wr.setCell ⟨w.heap.size + 1, 0, none⟩ x).setCell ⟨w.heap.size + 1, 1, none⟩ y) := by
  have hq := heap_setCell_same _ (w.heap.size + 1) 1 _ _ y (heap_setCell_same wr (w.heap.size + 1) 0 _ _ x h.res)
  obtain ⟨e0, e1, _, _⟩ := blk2 hq
  have hg : wr.grownBy ((wr.setCell ⟨w.heap.size + 1, 0, none⟩ x).setCell ⟨w.heap.size + 1, 1, none⟩ y) (some (w.heap.size + 1)) :=
    ⟨rfl, rfl, rfl, by simp [World.setCell], fun i _ hi => by
      have hi' : i ≠ w.heap.size + 1 := fun e => hi (by rw [e])
      rw [Below.heap_setCell _ _ _ _ hi', Below.heap_setCell _ _ _ _ hi']⟩
  have n1 := own_ne h.rp h.res (by decide)
  have n2 := own_ne h.rq h.res (by decide)
  exact ⟨e0, e1, h.rp.kept hg (.inr (fun e => n1 (by simpa [Value.ownBlock] using e))), h.rq.kept hg (.inr (fun e => n2 (by simpa [Value.ownBlock] using e))), (h.bel.setCell (p := ⟨w.heap.size + 1, 0, none⟩) (by simp) x).setCell (p := ⟨w.heap.size + 1, 1, none⟩) (by simp) y⟩
theorem lt_alloc (w : World) (o : Obj) : w.heap.size < (w.alloc o).heap.size := by simp
/-- the cells of a new chain, later on -/
theorem nil_later {w3 w4 : World} {G : Nat} (h : w3.heap[G]? = some nilC) (hb : Below w3.heap.size w3 w4) : w4.cell? ⟨G, 0, none⟩ = some (.slice none 0 0) ∧ w4.cell? ⟨G, 1, none⟩ = some (.slice none 0 0) ∧ w4.frozen? ⟨G, 0, none⟩ = false ∧ w4.frozen? ⟨G, 1, none⟩ = false :=
  blk2 ((hb.block _ (Array.getElem?_eq_some_iff.1 h).1).trans h)
theorem nil_kept {w2 w3 : World} (hb : Below (w2.alloc nilC).heap.size (w2.alloc nilC) w3) : w3.heap[w2.heap.size]? = some nilC := (hb.block _ (lt_alloc w2 _)).trans (heap_alloc_new w2 _)
/-- .. its world and its block by their own names -/
def MvEx (w w2 W : World) (G gp cp gq cq n : Nat) (p f : Nat → Int) : Prop := ∃ w5 G', W = w5 ∧ G = G' ∧ MvAt w w5 G' gp cp gq cq n p f ∧ Below w2.heap.size w2 w5 ∧ w2.heap.size ≤ gq
theorem exC {w w2 w3 w4 : World} {gp cp gq cq n : Nat} {p q : Nat → Int} (hres : w2.heap[w.heap.size + 1]? = some nilC) (hb2 : Below w.heap.size w w2)
    (ho3 : w3.ownsRow w2.heap.size 2 1 (.slice (some ⟨gp, 0, none⟩) n cp) n (tab n p)) (hb3 : Below w2.heap.size w2 w3) (ho4 : w4.ownsRow w3.heap.size 2 1 (.slice (some ⟨gq, 0, none⟩) (n + 1) cq) (n + 1) (tab (n + 1) q)) (hb4 : Below w3.heap.size w3 w4) :
    MvEx w w2 (w4.alloc (.cells #[.slice (some ⟨gp, 0, none⟩) n cp, .slice (some ⟨gq, 0, none⟩) (n + 1) cq] 26)) w4.heap.size gp cp gq cq n p q :=
  have h24 := hb3.trans (hb4.mono hb3.size)
  ⟨_, _, rfl, rfl, MvAt.start hres hb2 ho3 hb3 ho4 hb4, h24.alloc h24.size _, Nat.le_trans hb3.size (ho4.lt gq rfl).1⟩
theorem exA {w w2 w3 w4 : World} {gp cp gq cq n : Nat} {p q : Nat → Int} (hres : w2.heap[w.heap.size + 1]? = some nilC) (hb2 : Below w.heap.size w w2) (w1 : World) (he : w1 = w2.alloc nilC)
    (ho3 : w3.ownsRow w1.heap.size 2 1 (.slice (some ⟨gp, 0, none⟩) n cp) n (tab n p)) (hb3 : Below w1.heap.size w1 w3) (ho4 : w4.ownsRow w3.heap.size 2 1 (.slice (some ⟨gq, 0, none⟩) (n + 1) cq) (n + 1) (tab (n + 1) q)) (hb4 : Below w3.heap.size w3 w4) :
    MvEx w w2 ((w4.setCell ⟨w2.heap.size, 0, none⟩ (.slice (some ⟨gp, 0, none⟩) n cp)).setCell ⟨w2.heap.size, 1, none⟩ (.slice (some ⟨gq, 0, none⟩) (n + 1) cq)) w2.heap.size gp cp gq cq n p q := by
  have hal := (Below.refl w2.heap.size w2).alloc (Nat.le_refl _) nilC
  rw [← he] at hal
  have h14 := (hal.trans (hb3.mono hal.size)).trans (hb4.mono (Nat.le_trans hal.size hb3.size))
  exact ⟨_, _, rfl, rfl, MvAt.startA hres hb2 w1 he ho3 hb3 ho4 hb4, (h14.setCell (p := ⟨w2.heap.size, 0, none⟩) (Nat.le_refl _) _).setCell (p := ⟨w2.heap.size, 1, none⟩) (Nat.le_refl _) _, Nat.le_trans (Nat.le_trans hal.size hb3.size) (ho4.lt gq rfl).1⟩
theorem exB {w w2 w3 w4 : World} {gp cp gq cq n : Nat} {p q : Nat → Int} (hres : w2.heap[w.heap.size + 1]? = some nilC) (hb2 : Below w.heap.size w w2)
    (ho3 : w3.ownsRow w2.heap.size 2 1 (.slice (some ⟨gp, 0, none⟩) n cp) n (tab n p)) (hb3 : Below w2.heap.size w2 w3) (w1 : World) (he : w1 = w3.alloc nilC) (ho4 : w4.ownsRow w1.heap.size 2 1 (.slice (some ⟨gq, 0, none⟩) (n + 1) cq) (n + 1) (tab (n + 1) q)) (hb4 : Below w1.heap.size w1 w4) :
    MvEx w w2 ((w4.setCell ⟨w3.heap.size, 0, none⟩ (.slice (some ⟨gp, 0, none⟩) n cp)).setCell ⟨w3.heap.size, 1, none⟩ (.slice (some ⟨gq, 0, none⟩) (n + 1) cq)) w3.heap.size gp cp gq cq n p q := by
  have hal := (Below.refl w3.heap.size w3).alloc (Nat.le_refl _) nilC
  rw [← he] at hal
  have h14 := (hb3.trans (hal.mono hb3.size)).trans (hb4.mono (Nat.le_trans hb3.size hal.size))
  exact ⟨_, _, rfl, rfl, MvAt.startB hres hb2 ho3 hb3 w1 he ho4 hb4, (h14.setCell (p := ⟨w3.heap.size, 0, none⟩) hb3.size _).setCell (p := ⟨w3.heap.size, 1, none⟩) hb3.size _, Nat.le_trans (Nat.le_trans hb3.size hal.size) (ho4.lt gq rfl).1⟩
theorem mv_step (p q : Nat → Int) (tz : Int) (j : Nat) (x y z : Int) (hx : p j = x) (hy : mv p q tz j = y) (hz : q (j + 1) = z) (h0 : 0 ≤ x) : (z < y - x ∧ mv p q tz (j + 1) = y - x) ∨ (¬ z < y - x ∧ y + x < z ∧ mv p q tz (j + 1) = y + x) ∨ (¬ z < y - x ∧ ¬ y + x < z ∧ mv p q tz (j + 1) = z) := by
  have e : mv p q tz (j + 1) = min (max (q (j + 1)) (mv p q tz j - p j)) (mv p q tz j + p j) := rfl
  rw [hx, hy, hz] at e
  omega
end Go.Proofs.Ytdljlemgaefbpaa
