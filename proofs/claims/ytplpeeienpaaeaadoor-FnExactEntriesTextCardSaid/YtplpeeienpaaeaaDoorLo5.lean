/- Loans, part 5: the reading of an argument. -/
import Derived.Test.YtplpeeienpaaeaaDoorLo4
namespace Go.Proofs.YtplpeeienpaaeaaDoor
open Go.ChangeShapes Go.WideShapes Go.ChangeAt Go.RowKit

set_option maxRecDepth 100000 in
theorem elem_loan {H : Type} {enc : TypeId × Value → H} {W : World} (n : Nat) (cs : List Value) (y : DataW H × List MemPlace) (h : DataW.trod enc Tryd.prog W 0 (fun _ => true) true n 50 cs = some y) :
    ∃ x : Ln, cs = cellsL x ∧ lenL x := by
  obtain ⟨xs, m, _, _, hl, hlen, hf⟩ := DataW.trod_struct Tryd.underlying50 h
  have hC : Tryd.prog.cellsOf 50 = 4 := by kernel_rfl
  rw [hC] at hl
  match cs, hl, xs, hlen with
  | [a0, a1, a2, a3], _, [y0, y1, y2, y3], _ =>
    have c1 : Tryd.prog.cellsOf 2 = 1 := by kernel_rfl
    have c2 : Tryd.prog.cellsOf 9 = 1 := by kernel_rfl
    have h0 := hf 0 _ rfl
    change DataW.trod enc Tryd.prog W 0 (fun _ => true) true m 9 (([a0, a1, a2, a3].drop 0).take (Tryd.prog.cellsOf 9)) = some y0 at h0
    rw [c2] at h0
    have h1 := hf 1 _ rfl
    change DataW.trod enc Tryd.prog W 0 (fun _ => true) true m 9 (([a0, a1, a2, a3].drop 1).take (Tryd.prog.cellsOf 9)) = some y1 at h1
    rw [c2] at h1
    have h2 := hf 2 _ rfl
    change DataW.trod enc Tryd.prog W 0 (fun _ => true) true m 2 (([a0, a1, a2, a3].drop 2).take (Tryd.prog.cellsOf 2)) = some y2 at h2
    rw [c1] at h2
    have h3 := hf 3 _ rfl
    change DataW.trod enc Tryd.prog W 0 (fun _ => true) true m 2 (([a0, a1, a2, a3].drop 3).take (Tryd.prog.cellsOf 2)) = some y3 at h3
    rw [c1] at h3
    obtain ⟨a, q0, _, w0⟩ := DataW.trod_string Tryd.underlying9 h0
    obtain ⟨b, q1, _, w1⟩ := DataW.trod_string Tryd.underlying9 h1
    obtain ⟨f, q2, _, _⟩ := DataW.trod_int Tryd.underlying2 h2
    obtain ⟨t, q3, _, _⟩ := DataW.trod_int Tryd.underlying2 h3
    simp at q0 q1 q2 q3
    subst q0 q1 q2 q3
    exact ⟨⟨a, b, f, t⟩, rfl, w0, w1⟩

set_option maxRecDepth 100000 in
theorem rd_loans {H : Type} {enc : TypeId × Value → H} {W : World} {base : Nat} {r : Reach} {v : Value} {d : DataW H} {p : List MemPlace} (ok : Value.okWide Tryd.prog W r base 22 v) (h : DataW.Trod enc Tryd.prog W 0 (fun _ => true) true 22 v d p) :
    ∃ xs : List Ln, RdL W W.heap.size v xs ∧ (xs.length ≤ maxLen ∧ ∀ x ∈ xs, lenL x) := by
  obtain ⟨ys, h1, h2, h3⟩ := rd_rows (P := Tryd.prog) cellsL lenL (sz := 4) Tryd.underlying22 (by kernel_rfl) (by omega) (fun _ => rfl) elem_loan ok h
  exact ⟨ys, h1, h2, h3⟩
end Go.Proofs.YtplpeeienpaaeaaDoor
