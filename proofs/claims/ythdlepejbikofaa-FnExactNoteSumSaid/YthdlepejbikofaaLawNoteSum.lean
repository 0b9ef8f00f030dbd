/- FnExactNoteSum: for every input the two checksums agree, and the arguments read as they did. No condition. -/
import Derived.Test.YthdlepejbikofaaFrame
import Derived.Test.YthdlepejbikofaaNote
namespace Go.Proofs.Ythdlepejbikofaa
open Go.ChangeShapes Go.WideShapes Go.ChangeAt Go.RowKit
open Go.ChangeMaps (open_string)

theorem ownNS : ownKnob Try.prog.godebug = none := by kernel_rfl
theorem laidNS : laidOutB Try.prog = true := by kernel_rfl

set_option maxHeartbeats 400000 in
theorem walkNoteSum (x y : Int) (s : ByteArray) (w : World) :
    Calls Try.prog 7 #[.int .i64 x, .int .i64 y, .string s] w fun e w' => e = .returned (.bool true) ∧ Below w.heap.size w w' := by
  have hb0 := Below.refl w.heap.size w
  by_cases h : s.size ≤ 1048576
  · have h0 : ((noteSum x y s.data.toList) != (noteSum x y s.data.toList)) = false := by simp
    generalize hn : noteSum x y s.data.toList = n at *
    have Hn := Lib.hid hn; clear hn
    go_enter Try.func7, Try.ntmps7
    go_wp2_with (first
      | (go_at_call 20; refine (specNoteSum _ _ _ _ (by omega)).mono ?_; rintro e w' ⟨rfl, rfl⟩; rw [Hn.out])
      | (go_at_call 21; refine (implNoteSum _ _ _ _ (by omega)).mono ?_; rintro e w' ⟨rfl, rfl⟩; rw [Hn.out]))
    go_ret
    exact ⟨rfl, hb0⟩
  · have h' : 1048576 < s.size := by omega
    go_enter Try.func7, Try.ntmps7
    go_wp2_with fail
    go_ret
    exact ⟨rfl, hb0⟩

set_option maxRecDepth 100000 in
theorem FnExactNoteSum_holds : Rows.FnExactNoteSumSaid :=
  OpenClaim.holds_of_wide 7 Try.f7 rfl rfl rfl rfl rfl rfl rfl ⟨rfl, rfl, rfl, rfl, rfl⟩ rfl rfl rfl rfl rfl (by kernel_rfl) Try.func7 (by kernel_rfl)
    (of_decide_eq_true (by kernel_rfl)) (by unfold Func.isWrapper; first | (rw [if_pos (by decide +kernel)]; kernel_rfl) | (rw [if_neg (by decide +kernel)]; exact ⟨rfl, rfl⟩))
    (fun os started H enc _ => law_lift (C := Try.checked) (s := Rows.fnExactNoteSumSpec) ownNS started (by kernel_rfl) Try.func7
      (ChangeSpec.witness6 (enc := enc) (C := Try.checked) false ⟨#[], #[.int .i64 0, .int .i64 0, .string ByteArray.empty], []⟩ 8 (by kernel_rfl) (by kernel_rfl) (by kernel_rfl) (by kernel_rfl))
      laidNS (by kernel_rfl) rfl rfl Try.underlying4
      (fun ds hd => match ds, hd with | [_, _, _], _ => rfl)
      (fun W base args ds before hval hA _ => by
        have hA' : DataW.TrodAll enc Try.prog W 0 (fun _ => true) true Try.f7.params.toList args.toList ds before := hA
        have hval' : ∀ (j : Nat) t v, Try.f7.params[j]? = some t → args[j]? = some v → Value.okWide Try.prog W .any base t v := hval
        clear hA hval
        rw [Try.params7] at hA' hval'
        obtain ⟨v0, v1, v2, d0, d1, d2, p0, p1, p2, rfl, rfl, rfl, h0, h1, h2⟩ := trodAll_three hA'
        obtain ⟨x, rfl, rfl, rfl, wx⟩ := open_int Try.underlying2 (hval' 0 _ v0 rfl rfl) h0
        obtain ⟨y, rfl, rfl, rfl, wy⟩ := open_int Try.underlying2 (hval' 1 _ v1 rfl rfl) h1
        obtain ⟨s, rfl, rfl, rfl, ws⟩ := open_string Try.underlying9 (hval' 2 _ v2 rfl rfl) h2
        exact walkNoteSum x y s W))

#print axioms FnExactNoteSum_holds
end Go.Proofs.Ythdlepejbikofaa
