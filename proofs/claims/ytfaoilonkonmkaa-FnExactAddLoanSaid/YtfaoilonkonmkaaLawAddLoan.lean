/- FnExactAddLoan: for every input the law returns true, and each argument reads as it did. No condition. -/
import Derived.Test.YtfaoilonkonmkaaFrame
import Derived.Test.YtfaoilonkonmkaaLo15
namespace Go.Proofs.Ytfaoilonkonmkaa
open Go.ChangeShapes Go.WideShapes Go.ChangeAt Go.RowKit
open Go.ChangeMaps (open_string)

theorem ownFnExactAddLoan : ownKnob Try.prog.godebug = none := by kernel_rfl
theorem laidFnExactAddLoan : laidOutB Try.prog = true := by kernel_rfl

set_option maxRecDepth 100000 in
theorem FnExactAddLoan_holds : Rows.FnExactAddLoanSaid :=
  OpenClaim.holds_of_wide 9 Try.f9 rfl rfl rfl rfl rfl rfl rfl ⟨rfl, rfl, rfl, rfl, rfl⟩ rfl rfl rfl rfl rfl (by kernel_rfl) Try.func9 (by kernel_rfl)
    (of_decide_eq_true (by kernel_rfl)) (by unfold Func.isWrapper; first | (rw [if_pos (by decide +kernel)]; kernel_rfl) | (rw [if_neg (by decide +kernel)]; exact ⟨rfl, rfl⟩))
    (fun os started H enc _ => law_lift (C := Try.checked) (s := Rows.fnExactAddLoanSpec) ownFnExactAddLoan started (by kernel_rfl) Try.func9
      (ChangeSpec.witness6 (enc := enc) (C := Try.checked) false ⟨#[], #[.slice none 0 0, .agg #[.string ByteArray.empty, .string ByteArray.empty, .int .i64 0, .int .i64 0]], []⟩ 8 (by kernel_rfl) (by kernel_rfl) (by kernel_rfl) (by kernel_rfl))
      laidFnExactAddLoan (by kernel_rfl) rfl rfl Try.underlying4
      (fun ds hd => match ds, hd with | [_, _], _ => rfl)
      (fun W base args ds before hval hA hlt => by
        have hA' : DataW.TrodAll enc Try.prog W 0 (fun _ => true) true Try.f9.params.toList args.toList ds before := hA
        have hval' : ∀ (j : Nat) t v, Try.f9.params[j]? = some t → args[j]? = some v → Value.okWide Try.prog W .any base t v := hval
        clear hA hval
        rw [Try.params9] at hA' hval'
        obtain ⟨v0, v1, d0, d1, p0, p1, rfl, rfl, rfl, h0, h1⟩ := trodAll_two hA'
        obtain ⟨zs0, hz0, hl0⟩ := rd_loans (hval' 0 _ v0 rfl rfl) h0
        obtain ⟨x1, rfl, hx1⟩ := rd_loan (hval' 1 _ v1 rfl rfl) h1
        exact walkFnExactAddLoan v0 zs0 hz0 hl0 x1 hx1 ))

#print axioms FnExactAddLoan_holds
end Go.Proofs.Ytfaoilonkonmkaa
