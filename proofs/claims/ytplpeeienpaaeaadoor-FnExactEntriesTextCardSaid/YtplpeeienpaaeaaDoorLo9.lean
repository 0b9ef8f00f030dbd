/- Loans, part 9: clashes and the order, both sides. -/
import Derived.Test.YtplpeeienpaaeaaDoorLo8
import Derived.Test.YtplpeeienpaaeaaDoorEn6
namespace Go.Proofs.YtplpeeienpaaeaaDoor
open Go.RowKit Go.Joins

def clash (x y : Ln) : Bool := decide (x.what = y.what) && decide (x.from_ ≤ y.till) && decide (y.from_ ≤ x.till)
def before (x y : Ln) : Bool := decide (x.from_ < y.from_) || (decide (x.from_ = y.from_) && lessS x.what y.what)
theorem clash_cases (x y : Ln) : ((x.what.toList == y.what.toList) = false ∧ clash x y = false) ∨ ((x.what.toList == y.what.toList) = true ∧ decide (x.from_ ≤ y.till) = false ∧ clash x y = false) ∨
    ((x.what.toList == y.what.toList) = true ∧ decide (x.from_ ≤ y.till) = true ∧ clash x y = decide (y.from_ ≤ x.till)) := by
  unfold clash
  by_cases h : x.what = y.what
  · rw [h]
    by_cases h1 : x.from_ ≤ y.till <;> simp [h1]
  · exact .inl ⟨beq_eq_false_iff_ne.2 fun e => h (ba_inj e), by simp [h]⟩
theorem before_cases (x y : Ln) : (decide (x.from_ < y.from_) = true ∧ before x y = true) ∨ (decide (x.from_ < y.from_) = false ∧ (x.from_ == y.from_) = false ∧ before x y = false) ∨
    (decide (x.from_ < y.from_) = false ∧ (x.from_ == y.from_) = true ∧ before x y = Op.bytesLess x.what.toList y.what.toList) := by
  unfold before
  change _ ∨ _ ∨ (_ ∧ _ ∧ _ = lessS x.what y.what)
  by_cases h : x.from_ < y.from_
  · simp [h]
  · by_cases h1 : x.from_ = y.from_
    · simp [h1]
    · simp [h, h1]

set_option maxRecDepth 100000 in
set_option maxHeartbeats 1600000 in
theorem clashes_any (x y : Ln) (w : World) :
    Calls Tryd.prog 51 #[aggL x, aggL y] w fun e w' => e = .returned (.bool (clash x y)) ∧ Below w.heap.size w w' := by
  have hc := clash_cases x y
  obtain ⟨a, b, f, t⟩ := x
  obtain ⟨c, d, g, u⟩ := y
  dsimp only at *
  have hb0 := Lib.hid (((Below.refl w.heap.size w).alloc (Nat.le_refl _) (.cells #[.string a, .string b, .int .i64 f, .int .i64 t] 52)).alloc (by simp) (.cells #[.string c, .string d, .int .i64 g, .int .i64 u] 52))
  rcases hc with ⟨g1, hf⟩ | ⟨g1, g2, hf⟩ | ⟨g1, g2, hf⟩
  all_goals
    have Hf := Lib.hid hf; clear hf
    go_enter Tryd.func51, Tryd.ntmps51
    go_wp2_with fail
    go_ret
    rw [Hf.out]; exact ⟨rfl, hb0.out⟩

set_option maxRecDepth 100000 in
set_option maxHeartbeats 1600000 in
theorem ahead_any (x y : Ln) (w : World) :
    Calls Tryd.prog 50 #[aggL x, aggL y] w fun e w' => e = .returned (.bool (before x y)) ∧ Below w.heap.size w w' := by
  have hc := before_cases x y
  obtain ⟨a, b, f, t⟩ := x
  obtain ⟨c, d, g, u⟩ := y
  dsimp only at *
  have hb0 := Lib.hid (((Below.refl w.heap.size w).alloc (Nat.le_refl _) (.cells #[.string a, .string b, .int .i64 f, .int .i64 t] 52)).alloc (by simp) (.cells #[.string c, .string d, .int .i64 g, .int .i64 u] 52))
  rcases hc with ⟨g1, hf⟩ | ⟨g1, g2, hf⟩ | ⟨g1, g2, hf⟩
  all_goals
    have Hf := Lib.hid hf; clear hf
    go_enter Tryd.func50, Tryd.ntmps50
    go_wp2_with fail
    go_ret
    rw [Hf.out]; exact ⟨rfl, hb0.out⟩

set_option maxRecDepth 100000 in
set_option maxHeartbeats 1600000 in
theorem l23Clash_any (B B2 b1 o1 b2 o2 : Nat) (x y : Ln) (w : World) (h : LnAt w B b1 o1 x) (h2 : LnAt w B2 b2 o2 y) :
    Calls Tryd.prog 47 #[.pointer (some ⟨b1, o1, none⟩), .pointer (some ⟨b2, o2, none⟩)] w fun e w' => e = .returned (.bool (clash x y)) ∧ ∃ n, w' = w.drewN n := by
  have hc := clash_cases x y
  obtain ⟨_, e0, e1, e2, e3⟩ := h
  obtain ⟨_, d0, d1, d2, d3⟩ := h2
  generalize clash x y = r at *
  obtain ⟨a, b, f, t⟩ := x
  obtain ⟨c, d, g, u⟩ := y
  dsimp only at *
  clear e1 d1
  rcases hc with ⟨g1, hf⟩ | ⟨g1, g2, hf⟩ | ⟨g1, g2, hf⟩
  all_goals
    have Hf := Lib.hid hf; clear hf
    go_enter Tryd.func47, Tryd.ntmps47
    go_wp2_with fail
    go_quiet (fail)
    go_wp2_with fail
    go_ret
    rw [Hf.out]; exact ⟨rfl, _, rfl⟩

set_option maxRecDepth 100000 in
set_option maxHeartbeats 1600000 in
theorem l23Before_any (B B2 b1 o1 b2 o2 : Nat) (x y : Ln) (w : World) (h : LnAt w B b1 o1 x) (h2 : LnAt w B2 b2 o2 y) :
    Calls Tryd.prog 46 #[.pointer (some ⟨b1, o1, none⟩), .pointer (some ⟨b2, o2, none⟩)] w fun e w' => e = .returned (.bool (before x y)) ∧ ∃ n, w' = w.drewN n := by
  have hc := before_cases x y
  obtain ⟨_, e0, e1, e2, e3⟩ := h
  obtain ⟨_, d0, d1, d2, d3⟩ := h2
  generalize before x y = r at *
  obtain ⟨a, b, f, t⟩ := x
  obtain ⟨c, d, g, u⟩ := y
  dsimp only at *
  clear e1 d1 e3 d3
  rcases hc with ⟨g1, hf⟩ | ⟨g1, g2, hf⟩ | ⟨g1, g2, hf⟩
  all_goals
    have Hf := Lib.hid hf; clear hf
    go_enter Tryd.func46, Tryd.ntmps46
    go_wp2_with fail
    go_quiet (fail)
    go_wp2_with fail
    go_ret
    rw [Hf.out]; exact ⟨rfl, _, rfl⟩
end Go.Proofs.YtplpeeienpaaeaaDoor
