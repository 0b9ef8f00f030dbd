/- Loans, part 8: one loan's validity, clashes, the order: both sides. -/
import Derived.Test.YtplpeeienpaaeaaDoorLo7
import Derived.Test.YtplpeeienpaaeaaDoorNm3
namespace Go.Proofs.YtplpeeienpaaeaaDoor
open Go.RowKit Go.Joins

theorem isDay_any (n : Int) (w : World) : Calls Tryd.prog 67 #[.int .i64 n] w fun e w' => e = .returned (.bool (inB n 0 100000)) ∧ w = w' := by
  have HB := Lib.hid (fun wx => between_any n 0 100000 wx)
  generalize inB n 0 100000 = g at *
  go_enter Tryd.func67, Tryd.ntmps67
  go_wp2_with fail
  refine (HB.out _).mono ?_; rintro e w1 ⟨rfl, rfl⟩
  go_wp2_with fail
  go_ret
  exact ⟨rfl, rfl⟩
theorem l23Day_any (n : Int) (w : World) : Calls Tryd.prog 65 #[.int .i64 n] w fun e w' => e = .returned (.bool (inB n 0 100000)) ∧ w = w' := by
  have HB := Lib.hid (fun wx => l00In_any n 0 100000 wx)
  generalize inB n 0 100000 = g at *
  go_enter Tryd.func65, Tryd.ntmps65
  go_wp2_with fail
  refine (HB.out _).mono ?_; rintro e w1 ⟨rfl, rfl⟩
  go_wp2_with fail
  go_ret
  exact ⟨rfl, rfl⟩

def loanOk (x : Ln) : Bool := isNm x.what.data.toList && isNm x.who.data.toList && inB x.from_ 0 100000 && inB x.till 0 100000 && decide (x.from_ ≤ x.till)
theorem loan_cases (x : Ln) : (isNm x.what.data.toList = false ∧ loanOk x = false) ∨ (isNm x.what.data.toList = true ∧ isNm x.who.data.toList = false ∧ loanOk x = false) ∨
    (isNm x.what.data.toList = true ∧ isNm x.who.data.toList = true ∧ inB x.from_ 0 100000 = false ∧ loanOk x = false) ∨
    (isNm x.what.data.toList = true ∧ isNm x.who.data.toList = true ∧ inB x.from_ 0 100000 = true ∧ inB x.till 0 100000 = false ∧ loanOk x = false) ∨
    (isNm x.what.data.toList = true ∧ isNm x.who.data.toList = true ∧ inB x.from_ 0 100000 = true ∧ inB x.till 0 100000 = true ∧ loanOk x = decide (x.from_ ≤ x.till)) := by
  unfold loanOk
  cases h1 : isNm x.what.data.toList <;> cases h2 : isNm x.who.data.toList <;> cases h3 : inB x.from_ 0 100000 <;> cases h4 : inB x.till 0 100000 <;> simp

set_option maxRecDepth 100000 in
set_option maxHeartbeats 1600000 in
theorem validLoan_any (x : Ln) (w : World) (hsm : smL x) :
    Calls Tryd.prog 49 #[aggL x] w fun e w' => e = .returned (.bool (loanOk x)) ∧ Below w.heap.size w w' := by
  have hc := loan_cases x
  obtain ⟨a, b, f, t⟩ := x
  obtain ⟨l1, l2⟩ := hsm
  dsimp only at *
  have hb0 := Lib.hid ((Below.refl w.heap.size w).alloc (Nat.le_refl _) (.cells #[.string a, .string b, .int .i64 f, .int .i64 t] 52))
  have HB1 := Lib.hid (fun wx => IsNameI_any a wx l1)
  have HB2 := Lib.hid (fun wx => IsNameI_any b wx l2)
  have HB3 := Lib.hid (fun wx => isDay_any f wx)
  have HB4 := Lib.hid (fun wx => isDay_any t wx)
  rcases hc with ⟨g1, hf⟩ | ⟨g1, g2, hf⟩ | ⟨g1, g2, g3, hf⟩ | ⟨g1, g2, g3, g4, hf⟩ | ⟨g1, g2, g3, g4, hf⟩
  all_goals
    have Hf := Lib.hid hf; clear hf
    rw [g1] at HB1; clear g1
    (try (rw [g2] at HB2; clear g2))
    (try (rw [g3] at HB3; clear g3))
    (try (rw [g4] at HB4; clear g4))
    go_enter Tryd.func49, Tryd.ntmps49
    go_wp2_with fail
    refine (HB1.out _).mono ?_; rintro e w1 ⟨rfl, rfl⟩
    go_wp2_with fail
    (try ((with_reducible refine (HB2.out _).mono ?_); rintro e w1 ⟨rfl, rfl⟩; go_wp2_with fail))
    (try ((with_reducible refine (HB3.out _).mono ?_); rintro e w1 ⟨rfl, rfl⟩; go_wp2_with fail))
    (try ((with_reducible refine (HB4.out _).mono ?_); rintro e w1 ⟨rfl, rfl⟩; go_wp2_with fail))
    go_ret
    rw [Hf.out]; exact ⟨rfl, hb0.out⟩

set_option maxRecDepth 100000 in
set_option maxHeartbeats 1600000 in
theorem l23One_any (B bb o : Nat) (x : Ln) (w : World) (h : LnAt w B bb o x) (hsm : smL x) :
    Calls Tryd.prog 45 #[.pointer (some ⟨bb, o, none⟩)] w fun e w' => e = .returned (.bool (loanOk x)) ∧ ∃ n, w' = w.drewN n := by
  have hc := loan_cases x
  obtain ⟨a, b, f, t⟩ := x
  obtain ⟨l1, l2⟩ := hsm
  obtain ⟨_, e0, e1, e2, e3⟩ := h
  dsimp only at *
  have HB1 := Lib.hid (fun wx => flipC (IsNameS_any a wx l1))
  have HB2 := Lib.hid (fun wx => flipC (IsNameS_any b wx l2))
  have HB3 := Lib.hid (fun wx => flipC (l23Day_any f wx))
  have HB4 := Lib.hid (fun wx => flipC (l23Day_any t wx))
  rcases hc with ⟨g1, hf⟩ | ⟨g1, g2, hf⟩ | ⟨g1, g2, g3, hf⟩ | ⟨g1, g2, g3, g4, hf⟩ | ⟨g1, g2, g3, g4, hf⟩
  all_goals
    have Hf := Lib.hid hf; clear hf
    rw [g1] at HB1; clear g1
    (try (rw [g2] at HB2; clear g2))
    (try (rw [g3] at HB3; clear g3))
    (try (rw [g4] at HB4; clear g4))
    go_enter Tryd.func45, Tryd.ntmps45
    go_wp2_with fail
    go_quiet ((first | (go_at_call 64; (with_reducible exact Calls.quiet_of_same (HB1.out _))) | (go_at_call 64; (with_reducible exact Calls.quiet_of_same (HB2.out _))) | (go_at_call 65; (with_reducible exact Calls.quiet_of_same (HB3.out _))) | (go_at_call 65; (with_reducible exact Calls.quiet_of_same (HB4.out _)))))
    go_wp2_with fail
    go_ret
    rw [Hf.out]; exact ⟨rfl, _, rfl⟩
end Go.Proofs.YtplpeeienpaaeaaDoor
