/- FnExactValidEntries: for every input the law returns true, and each argument reads as it did. No condition. -/
import Derived.Test.YtfaoilonkonmkaaFrame
import Derived.Test.YtfaoilonkonmkaaEn10
namespace Go.Proofs.Ytfaoilonkonmkaa
open Go.ChangeShapes Go.WideShapes Go.ChangeAt Go.RowKit
open Go.ChangeMaps (open_string)

theorem ownFnExactValidEntries : ownKnob Try.prog.godebug = none := by kernel_rfl
theorem laidFnExactValidEntries : laidOutB Try.prog = true := by kernel_rfl

set_option maxRecDepth 100000 in
theorem FnExactValidEntries_holds : Rows.FnExactValidEntriesSaid :=
  OpenClaim.holds_of_wide 8 Try.f8 rfl rfl rfl rfl rfl rfl rfl ⟨rfl, rfl, rfl, rfl, rfl⟩ rfl rfl rfl rfl rfl (by kernel_rfl) Try.func8 (by kernel_rfl)
    (of_decide_eq_true (by kernel_rfl)) (by unfold Func.isWrapper; first | (rw [if_pos (by decide +kernel)]; kernel_rfl) | (rw [if_neg (by decide +kernel)]; exact ⟨rfl, rfl⟩))
    (fun os started H enc _ => law_lift (C := Try.checked) (s := Rows.fnExactValidEntriesSpec) ownFnExactValidEntries started (by kernel_rfl) Try.func8
      (ChangeSpec.witness6 (enc := enc) (C := Try.checked) false ⟨#[], #[.slice none 0 0], []⟩ 8 (by kernel_rfl) (by kernel_rfl) (by kernel_rfl) (by kernel_rfl))
      laidFnExactValidEntries (by kernel_rfl) rfl rfl Try.underlying4
      (fun ds hd => match ds, hd with | [_], _ => rfl)
      (fun W base args ds before hval hA hlt => by
        have hA' : DataW.TrodAll enc Try.prog W 0 (fun _ => true) true Try.f8.params.toList args.toList ds before := hA
        have hval' : ∀ (j : Nat) t v, Try.f8.params[j]? = some t → args[j]? = some v → Value.okWide Try.prog W .any base t v := hval
        clear hA hval
        rw [Try.params8] at hA' hval'
        obtain ⟨v0, d0, rfl, rfl, h0⟩ := trodAll_one hA'
        obtain ⟨zs0, hz0, hl0⟩ := rd_entries (hval' 0 _ v0 rfl rfl) h0
        exact walkFnExactValidEntries v0 zs0 hz0 hl0 ))

#print axioms FnExactValidEntries_holds
end Go.Proofs.Ytfaoilonkonmkaa
