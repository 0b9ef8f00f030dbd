/- Registers, part 7: valid registers on both sides. -/
import Derived.Test.YtplpeeienpaaeaaDoorReg6
namespace Go.Proofs.YtplpeeienpaaeaaDoor
open Go.RowKit Go.Joins

theorem Calls_same {P : Program} {f : FuncId} {args : Array Value} {w : World} {v : Value} (h : Calls P f args w fun e w' => e = .returned v ∧ w = w') : Calls P f args w fun e w' => e = .returned v ∧ w' = w :=
  h.mono fun _ _ ⟨a, b⟩ => ⟨a, b.symm⟩

theorem okReg_b {b : Int} {zs : List Int} (h : inB b 2 16 = false) : okReg b zs = false := by unfold okReg; rw [h]; rfl
theorem okReg_d {b : Int} {zs : List Int} (h : okD b zs = false) : okReg b zs = false := by unfold okReg; rw [h]; simp
theorem okReg_w {b : Int} {zs : List Int} (h : inB (zs.length : Int) 1 16 = false) : okReg b zs = false := okReg_d (by unfold okD; rw [h]; simp)
theorem okReg_g {b : Int} {zs : List Int} (h : digB b zs = false) : okReg b zs = false := okReg_d (by unfold okD; rw [h]; simp)
theorem okReg_y {b : Int} {zs : List Int} (h : inB b 2 16 = true) (h2 : inB (zs.length : Int) 1 16 = true) (h3 : digB b zs = true) : okReg b zs = decide (capV b zs ≤ 1000000000000) := by unfold okReg okD; rw [h, h2, h3]; simp

end Go.Proofs.YtplpeeienpaaeaaDoor
