/- Journals, part 6: (*l26R).line, l26Read. -/
import Derived.Test.YtcidjbgjgancgaaDoorJr4
import Derived.Test.YtcidjbgjgancgaaDoorMark
import Derived.Deep.RegionHeld3
import Derived.Lib.OwnKind
import Derived.OneCell
namespace Go.Proofs.YtcidjbgjgancgaaDoor
open Go.RowKit Go.Joins

/-- the block of the reference's reader -/
def Lr (w : World) (g : Nat) (s : ByteArray) (nv : Value) (sum : Int) (a : Nat) : Prop := w.heap[g]? = some (.cells #[.string s, .int .i64 a, .int .i64 sum, nv] 45 (0, 0))
theorem Lr.cells {w : World} {g : Nat} {s : ByteArray} {nv : Value} {sum : Int} {a : Nat} (h : Lr w g s nv sum a) :
    w.cell? ⟨g, 0, none⟩ = some (.string s) ∧ w.cell? ⟨g, 1, none⟩ = some (.int .i64 a) ∧ w.cell? ⟨g, 2, none⟩ = some (.int .i64 sum) ∧ w.cell? ⟨g, 3, none⟩ = some nv ∧ ∀ i, w.frozen? ⟨g, i, none⟩ = false :=
  ⟨by rw [cell_of_row w g 0 _ _ _ h]; rfl, by rw [cell_of_row w g 1 _ _ _ h]; rfl, by rw [cell_of_row w g 2 _ _ _ h]; rfl, by rw [cell_of_row w g 3 _ _ _ h]; rfl, fun i => frozen_of_row w g i _ _ h⟩
theorem Lr.lt {w : World} {g : Nat} {s : ByteArray} {nv : Value} {sum : Int} {a : Nat} (h : Lr w g s nv sum a) : g < w.heap.size := (Array.getElem?_eq_some_iff.1 h).1
theorem Lr.below {w w' : World} {g : Nat} {s : ByteArray} {nv : Value} {sum : Int} {a : Nat} (h : Lr w g s nv sum a) (hb : Below w.heap.size w w') : Lr w' g s nv sum a := (hb.block _ h.lt).trans h
theorem Lr.ne {w : World} {g B n : Nat} {s : ByteArray} {nv v : Value} {sum : Int} {a : Nat} {xs : List Value} (hj : Lr w g s nv sum a) (ho : w.ownsRow B 9 1 v n xs) : v.ownBlock ≠ some g := by
  intro e
  obtain ⟨c, fz, hk⟩ := Lib.ownsRow_kind ho g e
  unfold Lr at hj
  rw [hj] at hk
  injection hk with hk
  injection hk with _ h _
  exact absurd h (by decide)
theorem Lr.row {w w' : World} {g B n : Nat} {s : ByteArray} {nv v : Value} {sum : Int} {a : Nat} {xs : List Value} (hj : Lr w g s nv sum a) (ho : w.ownsRow B 9 1 v n xs) (hg : w.grownBy w' v.ownBlock) : Lr w' g s nv sum a :=
  (hg.block g hj.lt (fun e => hj.ne ho e.symm)).trans hj
def LAt (w : World) (B g : Nat) (s : ByteArray) (st : JSt) : Prop :=
  ∃ nv, Lr w g s nv st.sum st.at_ ∧ w.ownsRow B 9 1 nv st.notes.length (strs st.notes) ∧ B ≤ g
theorem Lr.new (w : World) (o : Obj) (s : ByteArray) (nv : Value) : Lr ((w.alloc o).alloc (.cells #[.string s, .int .i64 0, .int .i64 0, nv] 45)) (w.heap.size + 1) s nv 0 0 := by
  have := heap_alloc_new (w.alloc o) (.cells #[.string s, .int .i64 0, .int .i64 0, nv] 45)
  simpa [Lr] using this
theorem lat_set {w W : World} {B g n : Nat} {s : ByteArray} {nv v : Value} {sum : Int} {a : Nat} {notes : List ByteArray} (hj : Lr w g s nv sum a) (ho : w.ownsRow B 9 1 v n (strs notes)) (hn : n = notes.length) (hB : B ≤ g) (hb : Below B W w)
    (sum' : Int) (X : Int) (a' : Nat) (hX : X = (a' : Int)) :
    LAt (((w.setCell ⟨g, 3, none⟩ v).setCell ⟨g, 2, none⟩ (.int .i64 sum')).setCell ⟨g, 1, none⟩ (.int .i64 X)) B g s ⟨a', sum', notes⟩ ∧
      Below B W (((w.setCell ⟨g, 3, none⟩ v).setCell ⟨g, 2, none⟩ (.int .i64 sum')).setCell ⟨g, 1, none⟩ (.int .i64 X)) := by
  subst hX hn
  have hne := hj.ne ho
  refine ⟨⟨v, heap_setCell_same _ g 1 _ _ _ (heap_setCell_same _ g 2 _ _ _ (heap_setCell_same _ g 3 _ _ _ hj)), ?_, hB⟩, ((hb.setCell (p := ⟨g, 3, none⟩) hB _).setCell (p := ⟨g, 2, none⟩) hB _).setCell (p := ⟨g, 1, none⟩) hB _⟩
  exact ownsRow_setCell_other (ownsRow_setCell_other (ownsRow_setCell_other ho (a := ⟨g, 3, none⟩) hne _) (a := ⟨g, 2, none⟩) hne _) (a := ⟨g, 1, none⟩) hne _

/-- the state of the search for the second blank -/
def Bl (l : ByteArray) (k b : Nat) : Prop :=
  (b = 0 ∧ k ≤ fnd 32 l) ∨ (b = 1 ∧ ∃ j, fnd 32 l < l.size ∧ j ≤ fnd 32 (tailOf 32 l) ∧ k = fnd 32 l + 1 + j) ∨ (b = 2 ∧ fnd 32 l < l.size ∧ fnd 32 (tailOf 32 l) < (tailOf 32 l).size ∧ k = fnd 32 l + 1 + (fnd 32 (tailOf 32 l) + 1))
theorem tail_at (l : ByteArray) (j : Nat) (h1 : fnd 32 l + 1 + j < l.size) (h2 : j < (tailOf 32 l).size) : (tailOf 32 l)[j] = l[fnd 32 l + 1 + j] := by
  have h3 : j < (l.extract (fnd 32 l + 1) l.size).size := h2
  show (l.extract (fnd 32 l + 1) l.size)[j] = l[fnd 32 l + 1 + j]
  exact ByteArray.getElem_extract (h := h3)
theorem Bl.yes {l : ByteArray} {k b : Nat} (h : Bl l k b) (hk : k < l.size) (hb : b < 2) (hc : l[k] = 32) : Bl l (k + 1) (b + 1) := by
  rcases h with ⟨rfl, h⟩ | ⟨rfl, j, h1, h2, rfl⟩ | ⟨rfl, _⟩
  · have := fnd_eq 32 l k h hk hc
    exact .inr (.inl ⟨rfl, 0, by omega, by omega, by omega⟩)
  · have hj : j < (tailOf 32 l).size := by rw [tail_size]; omega
    have := fnd_eq 32 (tailOf 32 l) j h2 hj (by rw [tail_at l j hk hj]; exact hc)
    exact .inr (.inr ⟨rfl, h1, by omega, by omega⟩)
  · omega
theorem Bl.no {l : ByteArray} {k b : Nat} (h : Bl l k b) (hk : k < l.size) (hb : b < 2) (hc : l[k] ≠ 32) : Bl l (k + 1) b := by
  rcases h with ⟨rfl, h⟩ | ⟨rfl, j, h1, h2, rfl⟩ | ⟨rfl, _⟩
  · exact .inl ⟨rfl, fnd_ne 32 l k h hk hc⟩
  · have hj : j < (tailOf 32 l).size := by rw [tail_size]; omega
    have := fnd_ne 32 (tailOf 32 l) j h2 hj (by rw [tail_at l j hk hj]; exact hc)
    exact .inr (.inl ⟨rfl, j + 1, h1, by omega, by omega⟩)
  · omega
theorem Bl.both {l : ByteArray} {k : Nat} (h : Bl l k 2) : two l = true ∧ l.extract k l.size = noteOf l := by
  rcases h with ⟨h, _⟩ | ⟨h, _⟩ | ⟨_, h1, h2, rfl⟩
  · omega
  · omega
  · refine ⟨by simp [two, h1, h2], ?_⟩
    unfold noteOf
    generalize hj : fnd 32 (tailOf 32 l) = j
    rw [show tailOf 32 (tailOf 32 l) = (tailOf 32 l).extract (j + 1) (tailOf 32 l).size by rw [← hj]; rfl]
    rw [tail_size]
    unfold tailOf
    generalize fnd 32 l = q
    rw [ByteArray.extract_extract]
    congr 1 <;> omega
theorem Bl.less {l : ByteArray} {k b : Nat} (h : Bl l k b) (hk : l.size ≤ k) (hb : b < 2) : two l = false := by
  rcases h with ⟨rfl, h⟩ | ⟨rfl, j, h1, h2, rfl⟩ | ⟨rfl, _⟩
  · have := fnd_le 32 l
    simp [two]; omega
  · have := fnd_le 32 (tailOf 32 l)
    have := tail_size 32 l
    simp [two]; omega
  · omega
end Go.Proofs.YtcidjbgjgancgaaDoor
