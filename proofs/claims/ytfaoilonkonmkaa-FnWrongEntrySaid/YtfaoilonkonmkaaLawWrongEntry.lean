/- FnWrongEntry: for every input the law returns true, and each argument reads as it did. No condition. -/
import Derived.Test.YtfaoilonkonmkaaFrame
import Derived.Test.YtfaoilonkonmkaaWe2
import Derived.Test.YtfaoilonkonmkaaArgs
namespace Go.Proofs.Ytfaoilonkonmkaa
open Go.ChangeShapes Go.WideShapes Go.ChangeAt Go.RowKit
open Go.ChangeMaps (open_string)

theorem ownFnWrongEntry : ownKnob Try.prog.godebug = none := by kernel_rfl
theorem laidFnWrongEntry : laidOutB Try.prog = true := by kernel_rfl

set_option maxRecDepth 100000 in
theorem FnWrongEntry_holds : Rows.FnWrongEntrySaid :=
  OpenClaim.holds_of_wide 14 Try.f14 rfl rfl rfl rfl rfl rfl rfl ⟨rfl, rfl, rfl, rfl, rfl⟩ rfl rfl rfl rfl rfl (by kernel_rfl) Try.func14 (by kernel_rfl)
    (of_decide_eq_true (by kernel_rfl)) (by unfold Func.isWrapper; first | (rw [if_pos (by decide +kernel)]; kernel_rfl) | (rw [if_neg (by decide +kernel)]; exact ⟨rfl, rfl⟩))
    (fun os started H enc _ => law_lift (C := Try.checked) (s := Rows.fnWrongEntrySpec) ownFnWrongEntry started (by kernel_rfl) Try.func14
      (ChangeSpec.witness6 (enc := enc) (C := Try.checked) false ⟨#[], #[.slice none 0 0, .slice none 0 0], []⟩ 8 (by kernel_rfl) (by kernel_rfl) (by kernel_rfl) (by kernel_rfl))
      laidFnWrongEntry (by kernel_rfl) rfl rfl Try.underlying4
      (fun ds hd => match ds, hd with | [_, _], _ => rfl)
      (fun W base args ds before hval hA hlt => by
        have hA' : DataW.TrodAll enc Try.prog W 0 (fun _ => true) true Try.f14.params.toList args.toList ds before := hA
        have hval' : ∀ (j : Nat) t v, Try.f14.params[j]? = some t → args[j]? = some v → Value.okWide Try.prog W .any base t v := hval
        clear hA hval
        rw [Try.params14] at hA' hval'
        obtain ⟨v0, v1, d0, d1, p0, p1, rfl, rfl, rfl, h0, h1⟩ := trodAll_two hA'
        obtain ⟨zs0, hz0, hl0⟩ := rd_bytes Try.underlying76 Try.underlying5 (by kernel_rfl) (hval' 0 _ v0 rfl rfl) h0
        obtain ⟨zs1, hz1, hl1⟩ := rd_bytes Try.underlying76 Try.underlying5 (by kernel_rfl) (hval' 1 _ v1 rfl rfl) h1
        exact walkFnWrongEntry v0 zs0 hz0 hl0 v1 zs1 hz1 hl1 (W := W)))

#print axioms FnWrongEntry_holds
end Go.Proofs.Ytfaoilonkonmkaa
