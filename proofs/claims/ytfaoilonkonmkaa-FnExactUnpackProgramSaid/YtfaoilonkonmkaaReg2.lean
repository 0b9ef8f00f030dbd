/- Registers, part 2: toRegister. -/
import Derived.Test.YtfaoilonkonmkaaReg1
namespace Go.Proofs.Ytfaoilonkonmkaa
open Go.RowKit Go.Joins

set_option maxHeartbeats 800000 in
theorem toRegister_any (B : Nat) (b : Int) (v : Value) (zs : List Int) (w : World) (h : Rd w B v zs.length 1 (ints zs)) (hB : B ≤ w.heap.size) (hl : zs.length ≤ 1048576) :
    Calls Try.prog 17 #[.agg #[.int .i64 b, v]] w fun e w' => ∃ s, e = .returned (.agg #[.int .i64 b, s]) ∧ w'.ownsRow w.heap.size 2 1 s zs.length (ints zs) ∧ Below w.heap.size w w' := by
  have HT := Lib.hid (fun wx hx hB => toInt64S_any B v zs wx hx hB hl)
  have H := Lib.hid h
  obtain ⟨_, A, c, rfl, _⟩ := h
  go_enter Try.func17, Try.ntmps17
  go_wp2_with fail
  have hb3 := fun o1 o2 o3 => ((((Below.refl w.heap.size w).alloc (Nat.le_refl _) o1).alloc (by simp) o2).alloc (by simp; omega) o3)
  have Hb3 := Lib.hid (hb3 (.cells #[.int .i64 b, .slice A zs.length c] 24) (.cells #[.int .i64 0, .slice none 0 0] 28) (.cells #[.int .i64 b, .slice none 0 0] 28))
  clear hb3
  have hr : ∀ i o, (i = 1 ∧ o = Obj.cells #[.int .i64 0, .slice none 0 0] 28 (0, 0)) ∨ (i = 2 ∧ o = Obj.cells #[.int .i64 b, .slice none 0 0] 28 (0, 0)) → (((w.alloc (.cells #[.int .i64 b, .slice A zs.length c] 24)).alloc (.cells #[.int .i64 0, .slice none 0 0] 28)).alloc (.cells #[.int .i64 b, .slice none 0 0] 28)).heap[w.heap.size + i]? = some o := by
    intro i o hi
    show (((w.heap.push _).push _).push _)[w.heap.size + i]? = _
    simp only [Array.getElem?_push, Array.size_push]
    rcases hi with ⟨rfl, rfl⟩ | ⟨rfl, rfl⟩ <;> simp
  have Hr := Lib.hid hr; clear hr
  have hz3 : (((w.alloc (.cells #[.int .i64 b, .slice A zs.length c] 24)).alloc (.cells #[.int .i64 0, .slice none 0 0] 28)).alloc (.cells #[.int .i64 b, .slice none 0 0] 28)).heap.size = w.heap.size + 3 := by simp
  generalize ((w.alloc (.cells #[.int .i64 b, .slice A zs.length c] 24)).alloc (.cells #[.int .i64 0, .slice none 0 0] 28)).alloc (.cells #[.int .i64 b, .slice none 0 0] 28) = w3 at *
  refine (HT.out _ (H.out.below (Hb3.out.mono hB)) (by omega)).mono ?_; rintro e w4 ⟨rfl, ho4, hb4⟩
  have f1 := (hb4.block (w.heap.size + 1) (by omega)).trans (Hr.out 1 _ (.inl ⟨rfl, rfl⟩))
  have f2 := (hb4.block (w.heap.size + 1 + 1) (by omega)).trans (Hr.out 2 _ (.inr ⟨rfl, rfl⟩))
  obtain ⟨a0, a1, a2, a3⟩ := blk2 f1
  obtain ⟨b0, b1, b2, b3⟩ := blk2 f2
  have hb04 := Hb3.out.trans (hb4.mono Hb3.out.size)
  have Ho4 := Lib.hid ho4
  have g2 := heap_setCell_same w4 (w.heap.size + 1 + 1) 1 _ _ (.slice (some ⟨w3.heap.size, 0, none⟩) zs.length zs.length) f2
  have g1 : (w4.setCell ⟨w.heap.size + 1 + 1, 1, none⟩ (.slice (some ⟨w3.heap.size, 0, none⟩) zs.length zs.length)).heap[w.heap.size + 1]? = _ := (Below.heap_setCell _ _ _ _ (by simp)).trans f1
  have g3 := heap_setCell_same _ (w.heap.size + 1) 1 _ _ (.slice (some ⟨w3.heap.size, 0, none⟩) zs.length zs.length) (heap_setCell_same _ (w.heap.size + 1) 0 _ _ (.int .i64 b) g1)
  obtain ⟨p0, p1, p2, p3⟩ := blk2 g2
  obtain ⟨q0, q1, _, _⟩ := blk2 g3
  have hbe := (((hb04.setCell (p := ⟨w.heap.size + 1 + 1, 1, none⟩) (by simp; omega) (.slice (some ⟨w3.heap.size, 0, none⟩) zs.length zs.length)).setCell (p := ⟨w.heap.size + 1, 0, none⟩) (by simp) (.int .i64 b)).setCell (p := ⟨w.heap.size + 1, 1, none⟩) (by simp) (.slice (some ⟨w3.heap.size, 0, none⟩) zs.length zs.length))
  have hoe := ownsRow_setCell_below (ownsRow_setCell_below (ownsRow_setCell_below ho4 (a := ⟨w.heap.size + 1 + 1, 1, none⟩) (by show w.heap.size + 1 + 1 < w3.heap.size; omega) (.slice (some ⟨w3.heap.size, 0, none⟩) zs.length zs.length)) (a := ⟨w.heap.size + 1, 0, none⟩) (by show w.heap.size + 1 < w3.heap.size; omega) (.int .i64 b)) (a := ⟨w.heap.size + 1, 1, none⟩) (by show w.heap.size + 1 < w3.heap.size; omega) (.slice (some ⟨w3.heap.size, 0, none⟩) zs.length zs.length)
  have Hbe := Lib.hid hbe
  have Hoe := Lib.hid (ownsRow_le hoe (base' := w.heap.size) (by omega))
  clear hbe hoe f1 f2 g1 g2 g3 hb4 hb04 ho4 hz3
  go_wp2_with fail
  exact bodyPost_ret (v := .agg #[.int .i64 b, .slice (some ⟨w3.heap.size, 0, none⟩) zs.length zs.length]) (by simp [results, Try.results17, go_sem, q0, q1]) rfl ⟨_, rfl, Hoe.out, Hbe.out⟩
end Go.Proofs.Ytfaoilonkonmkaa
