/- What a law's arguments read as: a struct of a number and a list of numbers. -/
import Derived.Test.YtfaoilonkonmkaaArgs
namespace Go.Proofs.Ytfaoilonkonmkaa
open Go.ChangeShapes Go.WideShapes Go.ChangeAt Go.RowKit

section
variable {H : Type} {enc : TypeId × Value → H} {P : Program} {W : World}

theorem rd_ints_cells {T E : Nat} {k : IntKind} {fuel : Nat} {cs : List Value} {x : DataW H × List MemPlace} (hT : P.underlying T = some (.slice E)) (hE : P.underlying E = some (.int k)) (hC : P.cellsOf E = 1)
    (hf : DataW.trod enc P W 0 (fun _ => true) true fuel T cs = some x) :
    ∃ (v : Value) (zs : List Int), cs = [v] ∧ Rd W W.heap.size v zs.length 1 (zs.map (.int k)) ∧ zs.length ≤ maxLen ∧ ∀ z ∈ zs, (Lit.int k z).wf = true := by
  rcases open_ints hT hE hC hf with ⟨rfl, hx⟩ | ⟨a, len, cap, zs, rfl, _, hl, hm, hz, hx, hcell, hwz⟩
  · exact ⟨_, [], rfl, ⟨rfl, none, 0, rfl, fun h => by simp at h⟩, by simp [maxLen], by simp⟩
  · have hz' : zs.length = cap := by simpa using hz
    have hlen : (zs.take len).length = len := by rw [List.length_take]; omega
    refine ⟨_, zs.take len, rfl, ?_, by rw [hlen]; omega, fun z hzz => hwz z (List.mem_of_mem_take hzz)⟩
    rw [hlen]
    refine ⟨by simp; omega, some a, cap, rfl, fun hn => ?_⟩
    obtain ⟨b, off, rfl, hc⟩ := ints_at hcell (by omega)
    refine ⟨b, off, rfl, World.block_lt_of_cell? W _ (hc 0 (by omega)), fun i u hu => ?_⟩
    have hi : i < len := by
      have := (List.getElem?_eq_some_iff.1 hu).1
      simp at this; omega
    rw [hc i (by omega), ← hu]
    simp [hi, List.getD, (show i < zs.length by omega)]

theorem rd_reg {R E base : Nat} {f0 f1 : Field} {r : Reach} {v : Value} {d : DataW H} {p : List MemPlace} (hR : P.underlying R = some (.struct #[f0, f1])) (h0 : P.underlying f0.type = some (.int .i64)) (o0 : f0.offset = 0) (c0 : P.cellsOf f0.type = 1)
    (h1 : P.underlying f1.type = some (.slice E)) (o1 : f1.offset = 1) (c1 : P.cellsOf f1.type = 1) (hE : P.underlying E = some (.int .i64)) (hC : P.cellsOf E = 1) (hRC : P.cellsOf R = 2)
    (ok : Value.okWide P W r base R v) (h : DataW.Trod enc P W 0 (fun _ => true) true R v d p) :
    ∃ (b : Int) (s : Value) (zs : List Int), v = .agg #[.int .i64 b, s] ∧ (Lit.int .i64 b).wf = true ∧ Rd W W.heap.size s zs.length 1 (zs.map (.int .i64)) ∧ zs.length ≤ maxLen ∧ ∀ z ∈ zs, (Lit.int .i64 z).wf = true := by
  obtain ⟨cs, rfl, hsz⟩ := okWide_struct hR ok
  obtain ⟨fuel, hf⟩ := h
  obtain ⟨y0, y1, n, _, _, e0, e1⟩ := trod_struct2 hR hf
  rw [o0, c0] at e0
  rw [o1, c1] at e1
  obtain ⟨b, q0, _, wb⟩ := DataW.trod_int h0 e0
  obtain ⟨s, zs, q1, hrd, hl, hw⟩ := rd_ints_cells h1 hE hC e1
  refine ⟨b, s, zs, ?_, wb, hrd, hl, hw⟩
  rw [hRC] at hsz
  obtain ⟨l⟩ := cs
  match l, hsz with
  | [x, y], _ =>
    simp [Value.cells] at q0 q1
    subst q0 q1
    rfl
end
end Go.Proofs.Ytfaoilonkonmkaa
