/- FnExactCompareRegisters: for every input the law returns true, and each argument reads as it did. No condition. -/
import Derived.Test.YtfaoilonkonmkaaFrame
import Derived.Test.YtfaoilonkonmkaaReg10
import Derived.Test.YtfaoilonkonmkaaArgR
namespace Go.Proofs.Ytfaoilonkonmkaa
open Go.ChangeShapes Go.WideShapes Go.ChangeAt Go.RowKit
open Go.ChangeMaps (open_string)

theorem ownFnExactCompareRegisters : ownKnob Try.prog.godebug = none := by kernel_rfl
theorem laidFnExactCompareRegisters : laidOutB Try.prog = true := by kernel_rfl

set_option maxRecDepth 100000 in
theorem FnExactCompareRegisters_holds : Rows.FnExactCompareRegistersSaid :=
  OpenClaim.holds_of_wide 3 Try.f3 rfl rfl rfl rfl rfl rfl rfl ⟨rfl, rfl, rfl, rfl, rfl⟩ rfl rfl rfl rfl rfl (by kernel_rfl) Try.func3 (by kernel_rfl)
    (of_decide_eq_true (by kernel_rfl)) (by unfold Func.isWrapper; first | (rw [if_pos (by decide +kernel)]; kernel_rfl) | (rw [if_neg (by decide +kernel)]; exact ⟨rfl, rfl⟩))
    (fun os started H enc _ => law_lift (C := Try.checked) (s := Rows.fnExactCompareRegistersSpec) ownFnExactCompareRegisters started (by kernel_rfl) Try.func3
      (ChangeSpec.witness6 (enc := enc) (C := Try.checked) false ⟨#[], #[.agg #[.int .i64 0, .slice none 0 0], .agg #[.int .i64 0, .slice none 0 0]], []⟩ 8 (by kernel_rfl) (by kernel_rfl) (by kernel_rfl) (by kernel_rfl))
      laidFnExactCompareRegisters (by kernel_rfl) rfl rfl Try.underlying4
      (fun ds hd => match ds, hd with | [_, _], _ => rfl)
      (fun W base args ds before hval hA hlt => by
        have hA' : DataW.TrodAll enc Try.prog W 0 (fun _ => true) true Try.f3.params.toList args.toList ds before := hA
        have hval' : ∀ (j : Nat) t v, Try.f3.params[j]? = some t → args[j]? = some v → Value.okWide Try.prog W .any base t v := hval
        clear hA hval
        rw [Try.params3] at hA' hval'
        obtain ⟨v0, v1, d0, d1, p0, p1, rfl, rfl, rfl, h0, h1⟩ := trodAll_two hA'
        obtain ⟨b0, s0, zs0, rfl, wb0, hz0, hl0, hw0⟩ := rd_reg Try.underlying24 Try.underlying2 rfl (by kernel_rfl) Try.underlying22 rfl (by kernel_rfl) Try.underlying2 (by kernel_rfl) (by kernel_rfl) (hval' 0 _ v0 rfl rfl) h0
        obtain ⟨b1, s1, zs1, rfl, wb1, hz1, hl1, hw1⟩ := rd_reg Try.underlying24 Try.underlying2 rfl (by kernel_rfl) Try.underlying22 rfl (by kernel_rfl) Try.underlying2 (by kernel_rfl) (by kernel_rfl) (hval' 1 _ v1 rfl rfl) h1
        exact walkFnExactCompareRegisters b0 s0 zs0 hz0 hl0 b1 s1 zs1 hz1 hl1 ))

#print axioms FnExactCompareRegisters_holds
end Go.Proofs.Ytfaoilonkonmkaa
