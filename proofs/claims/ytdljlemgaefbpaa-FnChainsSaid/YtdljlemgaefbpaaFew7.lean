/- Fewest turns, part 7: the reference's fewest turns (made in a struct of its own). -/
import Derived.Test.YtdljlemgaefbpaaFew6
import Derived.Test.YtdljlemgaefbpaaDr1
namespace Go.Proofs.Ytdljlemgaefbpaa
open Go.RowKit Go.Joins

/-- two blocks of different types are two blocks -/
theorem own_ne {w : World} {base n sz g : Nat} {e t : TypeId} {v : Value} {xs : List Value} {cs : Array Value} {f : Nat × Nat} (h : w.ownsRow base e sz v n xs) (hg : w.heap[g]? = some (.cells cs t f)) (hne : e ≠ t) : v.ownBlock ≠ some g := by
  rcases h.2 with ⟨rfl, _⟩ | ⟨g', cap, cur, rfl, _, h1, _⟩
  · simp [Value.ownBlock]
  · intro h2
    simp [Value.ownBlock] at h2
    subst h2
    rw [h1] at hg
    simp at hg
    exact hne hg.2.1
end Go.Proofs.Ytdljlemgaefbpaa
