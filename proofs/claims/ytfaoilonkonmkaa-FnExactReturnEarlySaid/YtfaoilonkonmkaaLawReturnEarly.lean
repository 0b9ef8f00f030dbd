/- FnExactReturnEarly: for every input the law returns true, and each argument reads as it did. No condition. -/
import Derived.Test.YtfaoilonkonmkaaFrame
import Derived.Test.YtfaoilonkonmkaaLo18
namespace Go.Proofs.Ytfaoilonkonmkaa
open Go.ChangeShapes Go.WideShapes Go.ChangeAt Go.RowKit
open Go.ChangeMaps (open_string)

theorem ownFnExactReturnEarly : ownKnob Try.prog.godebug = none := by kernel_rfl
theorem laidFnExactReturnEarly : laidOutB Try.prog = true := by kernel_rfl

set_option maxRecDepth 100000 in
theorem FnExactReturnEarly_holds : Rows.FnExactReturnEarlySaid :=
  OpenClaim.holds_of_wide 10 Try.f10 rfl rfl rfl rfl rfl rfl rfl ⟨rfl, rfl, rfl, rfl, rfl⟩ rfl rfl rfl rfl rfl (by kernel_rfl) Try.func10 (by kernel_rfl)
    (of_decide_eq_true (by kernel_rfl)) (by unfold Func.isWrapper; first | (rw [if_pos (by decide +kernel)]; kernel_rfl) | (rw [if_neg (by decide +kernel)]; exact ⟨rfl, rfl⟩))
    (fun os started H enc _ => law_lift (C := Try.checked) (s := Rows.fnExactReturnEarlySpec) ownFnExactReturnEarly started (by kernel_rfl) Try.func10
      (ChangeSpec.witness6 (enc := enc) (C := Try.checked) false ⟨#[], #[.slice none 0 0, .string ByteArray.empty, .int .i64 0], []⟩ 8 (by kernel_rfl) (by kernel_rfl) (by kernel_rfl) (by kernel_rfl))
      laidFnExactReturnEarly (by kernel_rfl) rfl rfl Try.underlying4
      (fun ds hd => match ds, hd with | [_, _, _], _ => rfl)
      (fun W base args ds before hval hA hlt => by
        have hA' : DataW.TrodAll enc Try.prog W 0 (fun _ => true) true Try.f10.params.toList args.toList ds before := hA
        have hval' : ∀ (j : Nat) t v, Try.f10.params[j]? = some t → args[j]? = some v → Value.okWide Try.prog W .any base t v := hval
        clear hA hval
        rw [Try.params10] at hA' hval'
        obtain ⟨v0, v1, v2, d0, d1, d2, p0, p1, p2, rfl, rfl, rfl, h0, h1, h2⟩ := trodAll_three hA'
        obtain ⟨zs0, hz0, hl0⟩ := rd_loans (hval' 0 _ v0 rfl rfl) h0
        obtain ⟨x1, rfl, rfl, rfl, wx1⟩ := open_string Try.underlying9 (hval' 1 _ v1 rfl rfl) h1
        obtain ⟨x2, rfl, rfl, rfl, wx2⟩ := open_int Try.underlying2 (hval' 2 _ v2 rfl rfl) h2
        exact walkFnExactReturnEarly v0 zs0 hz0 hl0 x1 wx1 x2 wx2 ))

#print axioms FnExactReturnEarly_holds
end Go.Proofs.Ytfaoilonkonmkaa
