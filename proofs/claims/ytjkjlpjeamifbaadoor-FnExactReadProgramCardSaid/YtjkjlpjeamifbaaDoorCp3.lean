/- A program's line, read, part 3: the words of the operations, the two blocks of a reader. -/
import Derived.Test.YtjkjlpjeamifbaaDoorCp2
import Derived.Test.YtjkjlpjeamifbaaDoorRn4
import Derived.Test.YtjkjlpjeamifbaaDoorSp2
namespace Go.Proofs.YtjkjlpjeamifbaaDoor
open Go.RowKit Go.Joins

def WdAt (b m : Nat) (f : Nat → ByteArray) (w : World) : Prop := ∀ n, n < m → w.cell? ⟨b, n, none⟩ = some (.string (f n))
theorem WdAt.next {b m : Nat} {f : Nat → ByteArray} {w w' : World} (h : WdAt b m f w) (hb : Below w.heap.size w w') : WdAt b m f w' := fun n hn =>
  (hb.cell (p := ⟨b, n, none⟩) (World.block_lt_of_cell? w _ (h n hn))).trans (h n hn)
theorem WdAt.set {b m g i : Nat} {f : Nat → ByteArray} {w : World} (h : WdAt b m f w) (hg : b ≠ g) (v : Value) : WdAt b m f (w.setCell ⟨g, i, none⟩ v) := fun n hn =>
  (World.cell?_of_block (a := ⟨b, n, none⟩) (Below.heap_setCell _ _ _ _ hg)).trans (h n hn)
theorem opWords_all (w : World) : Calls Tryd.prog 73 #[] w fun e w' => e = .returned (.slice (some ⟨w.heap.size, 0, none⟩) 11 11) ∧ WdAt w.heap.size 11 wordP w' ∧ Below w.heap.size w w' := by
  have hb := (Below.refl w.heap.size w).alloc (Nat.le_refl _)
  have hc := fun (cs : Array Value) (n : Nat) (h : cs.toList[n]? = some (.string (wordP n))) => (add0 w.heap.size n) ▸ new_cells w cs 9 n _ h
  have hw := fun n hn => wordP_at n hn
  go_enter Tryd.func73, Tryd.ntmps73
  go_wp2_with fail
  go_ret
  exact ⟨rfl, fun n hn => hc _ n (hw n hn), hb _⟩
theorem l11Words_all (w : World) : Calls Tryd.prog 71 #[] w fun e w' => e = .returned (.slice (some ⟨w.heap.size, 0, none⟩) 10 10) ∧ WdAt w.heap.size 10 (fun k => wordP (k + 1)) w' ∧ Below w.heap.size w w' := by
  have hb := (Below.refl w.heap.size w).alloc (Nat.le_refl _)
  have hc := fun (cs : Array Value) (n : Nat) (h : cs.toList[n]? = some (.string (wordP (n + 1)))) => (add0 w.heap.size n) ▸ new_cells w cs 9 n _ h
  have hw := fun n (hn : n < 10) => wordP_at (n + 1) (by omega)
  go_enter Tryd.func71, Tryd.ntmps71
  go_wp2_with fail
  go_ret
  exact ⟨rfl, fun n hn => hc _ n (hw n hn), hb _⟩

/-- a result's block r and a block g of the function's own, two numbers each -/
structure Rl (W : World) (r g : Nat) (a b : Int) (w : World) : Prop where
  acc : Below W.heap.size W w
  r0 : W.heap.size ≤ r
  ne : r < g
  gs : g < w.heap.size
  res : w.heap[r]? = some (.cells #[.int .i64 0, .int .i64 0] 70 (0, 0))
  own : w.heap[g]? = some (.cells #[.int .i64 a, .int .i64 b] 70 (0, 0))
theorem Rl.cells {W : World} {r g : Nat} {a b : Int} {w : World} (h : Rl W r g a b w) : w.cell? ⟨g, 0, none⟩ = some (.int .i64 a) ∧ w.cell? ⟨g, 1, none⟩ = some (.int .i64 b) ∧ w.frozen? ⟨g, 0, none⟩ = false ∧ w.frozen? ⟨g, 1, none⟩ = false := blk2 h.own
theorem Rl.rcells {W : World} {r g : Nat} {a b : Int} {w : World} (h : Rl W r g a b w) : w.cell? ⟨r, 0, none⟩ = some (.int .i64 0) ∧ w.cell? ⟨r, 1, none⟩ = some (.int .i64 0) ∧ w.frozen? ⟨r, 0, none⟩ = false ∧ w.frozen? ⟨r, 1, none⟩ = false := blk2 h.res
theorem Rl.next {W : World} {r g : Nat} {a b : Int} {w w' : World} (h : Rl W r g a b w) (hb : Below w.heap.size w w') : Rl W r g a b w' :=
  ⟨h.acc.trans (hb.mono h.acc.size), h.r0, h.ne, Nat.lt_of_lt_of_le h.gs hb.size, (hb.block r (Nat.lt_trans h.ne h.gs)).trans h.res, (hb.block g h.gs).trans h.own⟩
theorem Rl.set0 {W : World} {r g : Nat} {a b : Int} {w : World} (h : Rl W r g a b w) (x : Int) : Rl W r g x b (w.setCell ⟨g, 0, none⟩ (.int .i64 x)) :=
  ⟨h.acc.setCell (p := ⟨g, 0, none⟩) (Nat.le_of_lt (Nat.lt_of_le_of_lt h.r0 h.ne)) _, h.r0, h.ne, by simpa [World.setCell] using h.gs, (Below.heap_setCell _ _ _ _ (Nat.ne_of_lt h.ne)).trans h.res, heap_setCell_same w g 0 _ _ _ h.own⟩
theorem Rl.set1 {W : World} {r g : Nat} {a b : Int} {w : World} (h : Rl W r g a b w) (x : Int) : Rl W r g a x (w.setCell ⟨g, 1, none⟩ (.int .i64 x)) :=
  ⟨h.acc.setCell (p := ⟨g, 1, none⟩) (Nat.le_of_lt (Nat.lt_of_le_of_lt h.r0 h.ne)) _, h.r0, h.ne, by simpa [World.setCell] using h.gs, (Below.heap_setCell _ _ _ _ (Nat.ne_of_lt h.ne)).trans h.res, heap_setCell_same w g 1 _ _ _ h.own⟩
theorem Rl.done {W : World} {r g : Nat} {a b : Int} {w : World} (h : Rl W r g a b w) (x y : Int) :
    ((w.setCell ⟨r, 0, none⟩ (.int .i64 x)).setCell ⟨r, 1, none⟩ (.int .i64 y)).cell? ⟨r, 0, none⟩ = some (.int .i64 x) ∧ ((w.setCell ⟨r, 0, none⟩ (.int .i64 x)).setCell ⟨r, 1, none⟩ (.int .i64 y)).cell? ⟨r, 1, none⟩ = some (.int .i64 y) ∧
    Below W.heap.size W ((w.setCell ⟨r, 0, none⟩ (.int .i64 x)).setCell ⟨r, 1, none⟩ (.int .i64 y)) := by
  have hq := heap_setCell_same _ r 1 _ _ (.int .i64 y) (heap_setCell_same w r 0 _ _ (.int .i64 x) h.res)
  obtain ⟨p, q, _, _⟩ := blk2 hq
  exact ⟨p, q, (h.acc.setCell (p := ⟨r, 0, none⟩) h.r0 _).setCell (p := ⟨r, 1, none⟩) h.r0 _⟩
theorem Rl.start {W w : World} (o : World) (hb : Below (W.alloc (.cells #[.int .i64 0, .int .i64 0] 70)).heap.size (W.alloc (.cells #[.int .i64 0, .int .i64 0] 70)) w) (a b : Int)
    (ho : o = w.alloc (.cells #[.int .i64 a, .int .i64 b] 70)) : Rl W W.heap.size w.heap.size a b o := by
  have hz := hb.size
  simp at hz
  have h1 := (hb.block W.heap.size (by simp)).trans (heap_alloc_new W (.cells #[.int .i64 0, .int .i64 0] 70))
  have h0 : Below W.heap.size W w := ((Below.refl _ _).alloc (Nat.le_refl _) _).trans (hb.mono (by simp))
  subst ho
  exact ⟨h0.alloc h0.size _, Nat.le_refl _, by omega, by simp, (((Below.refl w.heap.size w).alloc (Nat.le_refl _) _).block W.heap.size (by omega)).trans h1, heap_alloc_new w _⟩
end Go.Proofs.YtjkjlpjeamifbaaDoor
