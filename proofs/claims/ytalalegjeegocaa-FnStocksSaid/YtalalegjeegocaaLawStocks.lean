/- FnStocks: for every input the law returns true, and each argument reads as it did. No condition. -/
import Derived.Test.YtalalegjeegocaaFrame
import Derived.Test.YtalalegjeegocaaGLawStocks5
import Derived.Test.YtalalegjeegocaaGLawStocks1
namespace Go.Proofs.Ytalalegjeegocaa
open Go.ChangeShapes Go.WideShapes Go.ChangeAt Go.RowKit
open Go.ChangeMaps (open_string)

theorem ownFnStocks : ownKnob Try.prog.godebug = none := by kernel_rfl
theorem laidFnStocks : laidOutB Try.prog = true := by kernel_rfl

set_option maxRecDepth 100000 in
set_option maxHeartbeats 40000000 in
theorem FnStocks_holds : Rows.FnStocksSaid :=
  OpenClaim.holds_of_wide 4 Try.f4 rfl rfl rfl rfl rfl rfl rfl ⟨rfl, rfl, rfl, rfl, rfl⟩ rfl rfl rfl rfl rfl (by as_aux_lemma => kernel_rfl) Try.func4 (by as_aux_lemma => kernel_rfl)
    (of_decide_eq_true (by as_aux_lemma => kernel_rfl)) (by unfold Func.isWrapper; first | (rw [if_pos (by as_aux_lemma => decide +kernel)]; kernel_rfl) | (rw [if_neg (by as_aux_lemma => decide +kernel)]; exact ⟨rfl, rfl⟩))
    (fun os started H enc _ => law_lift (C := Try.checked) (s := Rows.fnStocksSpec) ownFnStocks started (by as_aux_lemma => kernel_rfl) Try.func4
      (ChangeSpec.witness6 (enc := enc) (C := Try.checked) false ⟨#[], #[.slice none 0 0], []⟩ 8 (by as_aux_lemma => kernel_rfl) (by as_aux_lemma => kernel_rfl) (by as_aux_lemma => kernel_rfl) (by as_aux_lemma => kernel_rfl))
      laidFnStocks (by as_aux_lemma => kernel_rfl) rfl rfl Try.underlying4
      (fun ds hd => match ds, hd with | [_], _ => rfl)
      (fun W base args ds before hval hA hlt => by
        have hA' : DataW.TrodAll enc Try.prog W 0 (fun _ => true) true Try.f4.params.toList args.toList ds before := hA
        have hval' : ∀ (j : Nat) t v, Try.f4.params[j]? = some t → args[j]? = some v → Value.okWide Try.prog W .any base t v := hval
        clear hA hval
        rw [Try.params4] at hA' hval'
        obtain ⟨v0, d0, rfl, rfl, h0⟩ := trodAll_one hA'
        obtain ⟨zs0, hz0, hl0⟩ := rd_bytes Try.underlying22 Try.underlying5 (by as_aux_lemma => kernel_rfl) (hval' 0 _ v0 rfl rfl) h0
        exact walkFnStocks v0 zs0 hz0 hl0 (W := W)))

#print axioms FnStocks_holds
end Go.Proofs.Ytalalegjeegocaa
