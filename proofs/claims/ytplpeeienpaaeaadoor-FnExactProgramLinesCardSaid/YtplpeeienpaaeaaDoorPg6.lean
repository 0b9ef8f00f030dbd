/- Programs of hand movements, part 6: the law FnExactPackProgram. -/
import Derived.Test.YtplpeeienpaaeaaDoorPg5
namespace Go.Proofs.YtplpeeienpaaeaaDoor
open Go.ChangeShapes Go.WideShapes Go.ChangeAt Go.RowKit

section
variable {H : Type} {enc : TypeId × Value → H} {P : Program} {W : World}
theorem elem_ints2 {E : TypeId} {f0 f1 : Field} {k0 k1 : IntKind} (hR : P.underlying E = some (.struct #[f0, f1])) (h0 : P.underlying f0.type = some (.int k0)) (o0 : f0.offset = 0) (c0 : P.cellsOf f0.type = 1)
    (h1 : P.underlying f1.type = some (.int k1)) (o1 : f1.offset = 1) (c1 : P.cellsOf f1.type = 1) (hC : P.cellsOf E = 2) (n : Nat) (cs : List Value) (y : DataW H × List MemPlace) (h : DataW.trod enc P W 0 (fun _ => true) true n E cs = some y) :
    ∃ x z : Int, cs = [.int k0 x, .int k1 z] ∧ (Lit.int k0 x).wf = true ∧ (Lit.int k1 z).wf = true := by
  obtain ⟨y0, y1, m, _, hl, e0, e1⟩ := trod_struct2 hR h
  rw [o0, c0] at e0
  rw [o1, c1] at e1
  rw [hC] at hl
  obtain ⟨x, q0, _, w0⟩ := DataW.trod_int h0 e0
  obtain ⟨z, q1, _, w1⟩ := DataW.trod_int h1 e1
  match cs, hl with
  | [a, b], _ =>
    simp at q0 q1
    subst q0 q1
    exact ⟨x, z, rfl, w0, w1⟩
end
set_option maxRecDepth 100000 in
theorem rd_instrs {H : Type} {enc : TypeId × Value → H} {W : World} {base : Nat} {r : Reach} {v : Value} {d : DataW H} {p : List MemPlace} (ok : Value.okWide Tryd.prog W r base 36 v) (h : DataW.Trod enc Tryd.prog W 0 (fun _ => true) true 36 v d p) :
    ∃ zs : List (Int × Int), Rd W W.heap.size v zs.length 2 (progs zs) ∧ zs.length ≤ maxLen := by
  obtain ⟨zs, h1, h2, _⟩ := rd_rows (P := Tryd.prog) cellsP (fun _ => True) (sz := 2) Tryd.underlying36 (by kernel_rfl) (by omega) (fun _ => rfl) (fun n cs y hy => by
    obtain ⟨x, z, hcs, _⟩ := elem_ints2 Tryd.underlying69 Tryd.underlying2 rfl (by kernel_rfl) Tryd.underlying2 rfl (by kernel_rfl) (by kernel_rfl) n cs y hy
    exact ⟨(x, z), hcs, trivial⟩) ok h
  exact ⟨zs, h1, h2⟩

theorem Rd.next {w w' : World} {v : Value} {n sz : Nat} {cs : List Value} (h : Rd w w.heap.size v n sz cs) (hb : Below w.heap.size w w') : Rd w' w'.heap.size v n sz cs := (h.below hb).more hb.size
/-- a program of the laws, as one of the program's -/
theorem toInstr_c (B : Nat) (v : Value) (zs : List (Int × Int)) (w : World) (h : Rd w B v zs.length 2 (progs zs)) (hB : B ≤ w.heap.size) (hl : zs.length ≤ 1048576) :
    Calls Tryd.prog 18 #[v] w fun e w' => ∃ A c, e = .returned (.slice A zs.length c) ∧ Rd w' w'.heap.size (.slice A zs.length c) zs.length 2 (progs zs) ∧ Below w.heap.size w w' := by
  refine (toInstrS_any B v zs w h hB hl).mono ?_
  rintro e w' ⟨rfl, ho, hb⟩
  exact ⟨_, _, rfl, Rd.of_own ho, hb⟩

end Go.Proofs.YtplpeeienpaaeaaDoor
