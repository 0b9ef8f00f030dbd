/- FnExactCutPower: for every input the law returns true, and each argument reads as it did. No condition. -/
import Derived.Test.YthdlepejbikofaaFrame
import Derived.Test.YthdlepejbikofaaSmall
namespace Go.Proofs.Ythdlepejbikofaa
open Go.ChangeShapes Go.WideShapes Go.ChangeAt Go.RowKit
open Go.ChangeMaps (open_string)

theorem ownFnExactCutPower : ownKnob Try.prog.godebug = none := by kernel_rfl
theorem laidFnExactCutPower : laidOutB Try.prog = true := by kernel_rfl

set_option maxRecDepth 100000 in
theorem FnExactCutPower_holds : Rows.FnExactCutPowerSaid :=
  OpenClaim.holds_of_wide 6 Try.f6 rfl rfl rfl rfl rfl rfl rfl ⟨rfl, rfl, rfl, rfl, rfl⟩ rfl rfl rfl rfl rfl (by kernel_rfl) Try.func6 (by kernel_rfl)
    (of_decide_eq_true (by kernel_rfl)) (by unfold Func.isWrapper; first | (rw [if_pos (by decide +kernel)]; kernel_rfl) | (rw [if_neg (by decide +kernel)]; exact ⟨rfl, rfl⟩))
    (fun os started H enc _ => law_lift (C := Try.checked) (s := Rows.fnExactCutPowerSpec) ownFnExactCutPower started (by kernel_rfl) Try.func6
      (ChangeSpec.witness6 (enc := enc) (C := Try.checked) false ⟨#[], #[.string ByteArray.empty, .int .i64 0], []⟩ 8 (by kernel_rfl) (by kernel_rfl) (by kernel_rfl) (by kernel_rfl))
      laidFnExactCutPower (by kernel_rfl) rfl rfl Try.underlying4
      (fun ds hd => match ds, hd with | [_, _], _ => rfl)
      (fun W base args ds before hval hA hlt => by
        have hA' : DataW.TrodAll enc Try.prog W 0 (fun _ => true) true Try.f6.params.toList args.toList ds before := hA
        have hval' : ∀ (j : Nat) t v, Try.f6.params[j]? = some t → args[j]? = some v → Value.okWide Try.prog W .any base t v := hval
        clear hA hval
        rw [Try.params6] at hA' hval'
        obtain ⟨v0, v1, d0, d1, p0, p1, rfl, rfl, rfl, h0, h1⟩ := trodAll_two hA'
        obtain ⟨x0, rfl, rfl, rfl, wx0⟩ := open_string Try.underlying9 (hval' 0 _ v0 rfl rfl) h0
        obtain ⟨x1, rfl, rfl, rfl, wx1⟩ := open_int Try.underlying2 (hval' 1 _ v1 rfl rfl) h1
        exact walkFnExactCutPower x0 wx0 x1 wx1 W))

#print axioms FnExactCutPower_holds
end Go.Proofs.Ythdlepejbikofaa
