/- Registers, part 8: the code of two registers. -/
import Derived.Test.YtplpeeienpaaeaaDoorReg7
namespace Go.Proofs.YtplpeeienpaaeaaDoor
open Go.RowKit Go.Joins

def codeTwo (b1 : Int) (z1 : List Int) (b2 : Int) (z2 : List Int) : Int :=
  if okReg b1 z1 = false then 1 else if okReg b2 z2 = false then 1 else if b1 ≠ b2 then 6 else if z1.length ≠ z2.length then 6 else 0
theorem codeTwo_cases (b1 : Int) (z1 : List Int) (b2 : Int) (z2 : List Int) : codeTwo b1 z1 b2 z2 = 0 ∨ codeTwo b1 z1 b2 z2 = 1 ∨ codeTwo b1 z1 b2 z2 = 6 := by
  unfold codeTwo; split
  · simp
  · split
    · simp
    · split
      · simp
      · split <;> simp
theorem codeTwo_ok {b1 : Int} {z1 : List Int} {b2 : Int} {z2 : List Int} (h : codeTwo b1 z1 b2 z2 = 0) : okReg b1 z1 = true ∧ okReg b2 z2 = true ∧ b1 = b2 ∧ z1.length = z2.length := by
  unfold codeTwo at h
  split at h
  · simp at h
  · split at h
    · simp at h
    · split at h
      · simp at h
      · split at h
        · simp at h
        · simp_all
theorem okReg_parts {b : Int} {zs : List Int} (h : okReg b zs = true) : 2 ≤ b ∧ b ≤ 16 ∧ digB b zs = true ∧ 1 ≤ zs.length ∧ zs.length ≤ 16 ∧ capV b zs ≤ 1000000000000 := by
  unfold okReg okD inB at h
  simp at h
  obtain ⟨⟨⟨h1, h2⟩, h3, h4, h5⟩, h6⟩ := h
  exact ⟨h1, h2, h3, by omega, by omega, h6⟩
theorem four_below {W w1 : World} {a b c d : Addr} {x y z t : Value} (hb : Below W.heap.size W w1) (h : W.cell? a = some x ∧ W.cell? b = some y ∧ W.cell? c = some z ∧ W.cell? d = some t) :
    w1.cell? a = some x ∧ w1.cell? b = some y ∧ w1.cell? c = some z ∧ w1.cell? d = some t :=
  have k {p : Addr} {v : Value} (h : W.cell? p = some v) : w1.cell? p = some v := (hb.cell (World.block_lt_of_cell? W _ h)).trans h
  ⟨k h.1, k h.2.1, k h.2.2.1, k h.2.2.2⟩

end Go.Proofs.YtplpeeienpaaeaaDoor
