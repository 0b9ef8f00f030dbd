/- FnExactByYear: for every input the law returns true, and each argument reads as it did. No condition. -/
import Derived.Test.YtmlnaedeghpbbaaFrame
import Derived.Test.YtmlnaedeghpbbaaGLawByYear5
namespace Go.Proofs.Ytmlnaedeghpbbaa
open Go.ChangeShapes Go.WideShapes Go.ChangeAt Go.RowKit
open Go.ChangeMaps (open_string)

theorem ownFnExactByYear : ownKnob Try.prog.godebug = none := by kernel_rfl
theorem laidFnExactByYear : laidOutB Try.prog = true := by kernel_rfl

set_option maxRecDepth 100000 in
set_option maxHeartbeats 40000000 in
theorem FnExactByYear_holds : Rows.FnExactByYearSaid :=
  OpenClaim.holds_of_wide 3 Try.f3 rfl rfl rfl rfl rfl rfl rfl ⟨rfl, rfl, rfl, rfl, rfl⟩ rfl rfl rfl rfl rfl (by as_aux_lemma => kernel_rfl) Try.func3 (by as_aux_lemma => kernel_rfl)
    (of_decide_eq_true (by as_aux_lemma => kernel_rfl)) (by unfold Func.isWrapper; first | (rw [if_pos (by as_aux_lemma => decide +kernel)]; kernel_rfl) | (rw [if_neg (by as_aux_lemma => decide +kernel)]; exact ⟨rfl, rfl⟩))
    (fun os started H enc _ => law_lift (C := Try.checked) (s := Rows.fnExactByYearSpec) ownFnExactByYear started (by as_aux_lemma => kernel_rfl) Try.func3
      (ChangeSpec.witness6 (enc := enc) (C := Try.checked) false ⟨#[], #[.slice none 0 0], []⟩ 8 (by as_aux_lemma => kernel_rfl) (by as_aux_lemma => kernel_rfl) (by as_aux_lemma => kernel_rfl) (by as_aux_lemma => kernel_rfl))
      laidFnExactByYear (by as_aux_lemma => kernel_rfl) rfl rfl Try.underlying4
      (fun ds hd => match ds, hd with | [_], _ => rfl)
      (fun W base args ds before hval hA hlt => by
        have hA' : DataW.TrodAll enc Try.prog W 0 (fun _ => true) true Try.f3.params.toList args.toList ds before := hA
        have hval' : ∀ (j : Nat) t v, Try.f3.params[j]? = some t → args[j]? = some v → Value.okWide Try.prog W .any base t v := hval
        clear hA hval
        rw [Try.params3] at hA' hval'
        obtain ⟨v0, d0, rfl, rfl, h0⟩ := trodAll_one hA'
        obtain ⟨zs0, hz0, hl0⟩ := rd_entries (hval' 0 _ v0 rfl rfl) h0
        exact walkFnExactByYear v0 zs0 hz0 hl0 ))

#print axioms FnExactByYear_holds
end Go.Proofs.Ytmlnaedeghpbbaa
