/- Signals: joining, carries through, the draw of three signals; (part 1). -/
import Derived.Test.YthdlepejbikofaaSrc
namespace Go.Proofs.Ythdlepejbikofaa
open Go.RowKit Go.Joins

/-- the joined signal's first part -/
def jM (lm hm hp : Bool) : Bool := hm || (hp && lm)
/-- .. and its second -/
def jP (lp hp : Bool) : Bool := lp && hp
theorem jM_assoc (a b c q r : Bool) : jM (jM a b q) c r = jM a (jM b c r) (jP q r) := by cases a <;> cases b <;> cases c <;> cases q <;> cases r <;> rfl
theorem jP_assoc (a b c : Bool) : jP (jP a b) c = jP a (jP b c) := by cases a <;> cases b <;> cases c <;> rfl
/-- the carry behind -/
def thr (m p : Bool) (c : Int) : Int := if m || (p && c == 1) then 1 else 0

set_option maxHeartbeats 1000000 in
theorem joinI (lm lp hm hp : Bool) (w : World) :
    Calls Try.prog 31 #[.agg #[.bool lm, .bool lp], .agg #[.bool hm, .bool hp]] w fun e w' => e = .returned (.agg #[.bool (jM lm hm hp), .bool (jP lp hp)]) ∧ Below w.heap.size w w' := by
  cases lm <;> cases lp <;> cases hm <;> cases hp
  all_goals
    go_enter Try.func31, Try.ntmps31
    go_wp2
    exact bodyPost_ret (v := .agg #[.bool (jM _ _ _), .bool (jP _ _)]) (by simp [results, Try.results31, go_sem, jM, jP]) rfl ⟨rfl, (((Below.refl _ _).alloc (Nat.le_refl _) _).alloc (by simp) _).alloc (by simp; omega) _⟩

set_option maxHeartbeats 1000000 in
theorem joinS (lm lp hm hp : Bool) (w : World) :
    Calls Try.prog 35 #[.agg #[.bool lm, .bool lp], .agg #[.bool hm, .bool hp]] w fun e w' => e = .returned (.agg #[.bool (jM lm hm hp), .bool (jP lp hp)]) ∧ Below w.heap.size w w' := by
  cases lm <;> cases lp <;> cases hm <;> cases hp
  all_goals
    go_enter Try.func35, Try.ntmps35
    go_wp2
    exact bodyPost_ret (v := .agg #[.bool (jM _ _ _), .bool (jP _ _)]) (by simp [results, Try.results35, go_sem, jM, jP]) rfl ⟨rfl, (((Below.refl _ _).alloc (Nat.le_refl _) _).alloc (by simp) _).alloc (by simp; omega) _⟩

set_option maxHeartbeats 1000000 in
theorem throughI (m p : Bool) (c : Int) (hc : c = 0 ∨ c = 1) (w : World) :
    Calls Try.prog 52 #[.agg #[.bool m, .bool p], .int .i64 c] w fun e w' => e = .returned (.int .i64 (thr m p c)) ∧ Below w.heap.size w w' := by
  rcases hc with rfl | rfl <;> cases m <;> cases p
  all_goals
    go_enter Try.func52, Try.ntmps52
    go_wp2
    go_ret
    exact ⟨rfl, (Below.refl _ _).alloc (Nat.le_refl _) _⟩

set_option maxHeartbeats 1000000 in
theorem throughS (m p : Bool) (c : Int) (hc : c = 0 ∨ c = 1) (w : World) :
    Calls Try.prog 53 #[.agg #[.bool m, .bool p], .int .i64 c] w fun e w' => e = .returned (.int .i64 (thr m p c)) ∧ Below w.heap.size w w' := by
  rcases hc with rfl | rfl <;> cases m <;> cases p
  all_goals
    go_enter Try.func53, Try.ntmps53
    go_wp2
    go_ret
    exact ⟨rfl, (Below.refl _ _).alloc (Nat.le_refl _) _⟩

set_option maxHeartbeats 400000 in
theorem carryI (m p : Bool) (c : Int) (hc : c = 0 ∨ c = 1) (w : World) :
    Calls Try.prog 33 #[.agg #[.bool m, .bool p], .int .i64 c] w fun e w' => e = .returned (.tuple #[.int .i64 (thr m p c), .int .i64 0]) ∧ Below w.heap.size w w' := by
  have hb : inB c 0 1 = true := by simp [inB]; omega
  have Hc := Lib.hid hc; clear hc
  have hb0 := (Below.refl w.heap.size w).alloc (Nat.le_refl _) (.cells #[.bool m, .bool p] 42)
  go_enter Try.func33, Try.ntmps33
  go_wp2_with fail
  refine (between_any _ _ _ _).mono ?_; rintro e w1 ⟨rfl, rfl⟩
  go_wp2_with fail
  refine (throughI m p c Hc.out _).mono ?_; rintro e w1 ⟨rfl, hb1⟩
  have hb2 := hb0.trans (hb1.mono hb0.size)
  go_wp2_with fail
  go_ret2
  exact ⟨rfl, hb2⟩

set_option maxHeartbeats 400000 in
theorem carryS (m p : Bool) (c : Int) (hc : c = 0 ∨ c = 1) (w : World) :
    Calls Try.prog 34 #[.agg #[.bool m, .bool p], .int .i64 c] w fun e w' => e = .returned (.tuple #[.int .i64 (thr m p c), .int .i64 0]) ∧ Below w.heap.size w w' := by
  have hb : inB c 0 1 = true := by simp [inB]; omega
  have Hc := Lib.hid hc; clear hc
  have hb0 := (Below.refl w.heap.size w).alloc (Nat.le_refl _) (.cells #[.bool m, .bool p] 42)
  go_enter Try.func34, Try.ntmps34
  go_wp2_with fail
  refine (l00In_any _ _ _ _).mono ?_; rintro e w1 ⟨rfl, rfl⟩
  go_wp2_with fail
  refine (throughS m p c Hc.out _).mono ?_; rintro e w1 ⟨rfl, hb1⟩
  have hb2 := hb0.trans (hb1.mono hb0.size)
  go_wp2_with fail
  go_ret2
  exact ⟨rfl, hb2⟩

end Go.Proofs.Ythdlepejbikofaa
