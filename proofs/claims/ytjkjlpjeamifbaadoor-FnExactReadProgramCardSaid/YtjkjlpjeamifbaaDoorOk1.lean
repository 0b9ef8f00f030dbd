/- Programs of hand movements: the bounds of instructions. -/
import Derived.Test.YtjkjlpjeamifbaaDoorPg3
namespace Go.Proofs.YtjkjlpjeamifbaaDoor
open Go.RowKit Go.Joins

theorem okIns_bd {op a : Int} (h : okIns op a = true) : 1 ≤ op ∧ op ≤ 10 ∧ 0 ≤ a ∧ a ≤ 1000000000000 := by
  unfold okIns argF inB at h
  simp only [Bool.and_eq_true, decide_eq_true_eq] at h
  obtain ⟨⟨h1, h2⟩, h3⟩ := h
  refine ⟨h1, h2, ?_⟩
  split at h3
  · simpa using h3
  · split at h3
    · simp at h3; omega
    · simp at h3; omega
theorem goD_ok : ∀ (l : List (Int × Int)) (d e : Int), goD d l = some e → ∀ x ∈ l, okIns x.1 x.2 = true := by
  intro l
  induction l with
  | nil => intro d e _ x hx; simp at hx
  | cons y l ih =>
    intro d e h x hx
    unfold goD at h
    split at h
    · next hy =>
      simp only [Bool.and_eq_true] at hy
      rcases List.mem_cons.1 hx with rfl | hx
      · exact hy.1
      · exact ih _ _ h x hx
    · simp at h
theorem okProg_all {l : List (Int × Int)} (h : okProg l = true) : (∀ x ∈ l, okIns x.1 x.2 = true) ∧ l.length ≤ 120 := by
  unfold okProg at h
  simp only [Bool.and_eq_true, beq_iff_eq, decide_eq_true_eq] at h
  exact ⟨goD_ok l 0 0 h.1, h.2⟩
end Go.Proofs.YtjkjlpjeamifbaaDoor
