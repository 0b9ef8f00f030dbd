/- FnExactPackRegister: for every input the law returns true, and each argument reads as it did. No condition. -/
import Derived.Test.YtfaoilonkonmkaaFrame
import Derived.Test.YtfaoilonkonmkaaPk5
import Derived.Test.YtfaoilonkonmkaaArgR
namespace Go.Proofs.Ytfaoilonkonmkaa
open Go.ChangeShapes Go.WideShapes Go.ChangeAt Go.RowKit
open Go.ChangeMaps (open_string)

theorem ownFnExactPackRegister : ownKnob Try.prog.godebug = none := by kernel_rfl
theorem laidFnExactPackRegister : laidOutB Try.prog = true := by kernel_rfl

set_option maxRecDepth 100000 in
theorem FnExactPackRegister_holds : Rows.FnExactPackRegisterSaid :=
  OpenClaim.holds_of_wide 4 Try.f4 rfl rfl rfl rfl rfl rfl rfl ⟨rfl, rfl, rfl, rfl, rfl⟩ rfl rfl rfl rfl rfl (by kernel_rfl) Try.func4 (by kernel_rfl)
    (of_decide_eq_true (by kernel_rfl)) (by unfold Func.isWrapper; first | (rw [if_pos (by decide +kernel)]; kernel_rfl) | (rw [if_neg (by decide +kernel)]; exact ⟨rfl, rfl⟩))
    (fun os started H enc _ => law_lift (C := Try.checked) (s := Rows.fnExactPackRegisterSpec) ownFnExactPackRegister started (by kernel_rfl) Try.func4
      (ChangeSpec.witness6 (enc := enc) (C := Try.checked) false ⟨#[], #[.agg #[.int .i64 0, .slice none 0 0]], []⟩ 8 (by kernel_rfl) (by kernel_rfl) (by kernel_rfl) (by kernel_rfl))
      laidFnExactPackRegister (by kernel_rfl) rfl rfl Try.underlying4
      (fun ds hd => match ds, hd with | [_], _ => rfl)
      (fun W base args ds before hval hA hlt => by
        have hA' : DataW.TrodAll enc Try.prog W 0 (fun _ => true) true Try.f4.params.toList args.toList ds before := hA
        have hval' : ∀ (j : Nat) t v, Try.f4.params[j]? = some t → args[j]? = some v → Value.okWide Try.prog W .any base t v := hval
        clear hA hval
        rw [Try.params4] at hA' hval'
        obtain ⟨v0, d0, rfl, rfl, h0⟩ := trodAll_one hA'
        obtain ⟨b0, s0, zs0, rfl, wb0, hz0, hl0, hw0⟩ := rd_reg Try.underlying24 Try.underlying2 rfl (by kernel_rfl) Try.underlying22 rfl (by kernel_rfl) Try.underlying2 (by kernel_rfl) (by kernel_rfl) (hval' 0 _ v0 rfl rfl) h0
        exact walkFnExactPackRegister b0 s0 zs0 hz0 hl0 ))

#print axioms FnExactPackRegister_holds
end Go.Proofs.Ytfaoilonkonmkaa
