/- Draws: one of some numbers is drawn. -/
import Derived.Test.YtdljlemgaefbpaaOne
namespace Go.Proofs.Ytdljlemgaefbpaa
open Go.RowKit Go.Joins

set_option maxHeartbeats 400000 in
theorem among_in (B g k m : Nat) (l : List Int) (bs : List UInt8) (w : World) (h : SrcAt w B g k bs) (hk : k < 4611686018427387800) (hm : l.length = m) (hm2 : 2 ≤ m) (hm3 : m ≤ 200) :
    Calls Try.prog 93 #[.pointer (some ⟨g, 0, none⟩), .slice (some ⟨w.heap.size, 0, none⟩) m m] (w.alloc (.cells (l.map (Value.int .i64)).toArray 2)) fun e w' => ∃ x : Int, x ∈ l ∧ e = .returned (.int .i64 x) ∧ SrcAt w' B g (k + 2) bs ∧ w.grownBy w' (some g) := by
  have hlt := h.lt
  have hbk := (Below.refl w.heap.size w).alloc (Nat.le_refl _) (.cells (l.map (Value.int .i64)).toArray 2)
  have hnc : ∀ i (hi : i < l.length), (w.alloc (.cells (l.map (Value.int .i64)).toArray 2)).cell? ⟨w.heap.size, i, none⟩ = some (.int .i64 l[i]) := fun i hi => by
    have := new_cells w (l.map (Value.int .i64)).toArray 2 i (.int .i64 l[i]) (by simp [hi])
    rwa [show (⟨w.heap.size, 0, none⟩ : Addr).add i = ⟨w.heap.size, i, none⟩ by unfold Addr.add; split <;> simp_all] at this
  have H := Lib.hid (h.below hbk); clear h
  have Hc := Lib.hid hnc; clear hnc
  have Hg := Lib.hid (fun w' (h : (w.alloc (.cells (l.map (Value.int .i64)).toArray 2)).grownBy w' (some g)) => grown_from_alloc h)
  have hsz : w.heap.size < (w.alloc (.cells (l.map (Value.int .i64)).toArray 2)).heap.size := by simp
  have hm4 : (m : Int) ≤ 200 := by omega
  clear hbk
  generalize w.alloc (.cells (l.map (Value.int .i64)).toArray 2) = wl at *
  go_enter Try.func93, Try.ntmps93
  go_wp2_with fail
  refine (pick_any B g k bs m _ H.out (by omega)).mono ?_; rintro e w1 ⟨x, rfl, ⟨hx0, hx1, _⟩, hs1, hg1⟩
  have Hs1 := Lib.hid hs1; clear hs1
  obtain ⟨i, rfl⟩ : ∃ i : Nat, x = i := ⟨x.toNat, by omega⟩
  have hx2 := hx1 (by omega)
  have hi : i < l.length := by omega
  have hcell := (World.cell?_of_block (a := ⟨w.heap.size, i, none⟩) (hg1.block w.heap.size hsz (fun e => by injection e; omega))).trans (Hc.out i hi)
  have hg2 := Hg.out _ hg1
  have hin := Lib.hid (show l[i] ∈ l from List.getElem_mem hi)
  generalize l[i] = z at *
  clear hx1 hg1
  go_wp2_with fail
  go_ret
  exact ⟨z, hin.out, rfl, Hs1.out, hg2⟩
end Go.Proofs.Ytdljlemgaefbpaa
