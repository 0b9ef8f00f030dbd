/- Fewest turns, part 9: the draw. -/
import Derived.Test.YtdljlemgaefbpaaFew8
namespace Go.Proofs.Ytdljlemgaefbpaa
open Go.RowKit Go.Joins

theorem SrcAt.setC {w : World} {B gs k g i : Nat} {bs : List UInt8} (h : SrcAt w B gs k bs) (hg : gs < g) (u : Value) : SrcAt (w.setCell ⟨g, i, none⟩ u) B gs k bs :=
  h.grown (r := some g) ⟨rfl, rfl, rfl, by simp [World.setCell], fun j _ hj => Below.heap_setCell _ _ _ _ (fun e => hj (by rw [e]))⟩ (fun x hx => by cases hx; exact hg)
theorem wsa {x : Int} (h0 : 0 ≤ x) (h1 : x < 3) : IntKind.i64.wrap (1 + x) = 1 + x := IntWalk.i64_in _ (by omega)
theorem wsc {x : Int} (h0 : 0 ≤ x) (h1 : x < 3) : 1 ≤ 1 + x ∧ 1 + x ≤ 3 := by omega
theorem wsb {x : Int} (h0 : 0 ≤ x) (h1 : x < 9) : IntKind.i64.wrap (x - 4) = x - 4 := IntWalk.i64_in _ (by omega)
def RetTD (gs : Nat) (w : World) (e : Ending) (w' : World) : Prop :=
  ∃ v b l, e = .returned (.agg #[.int .i64 ((b : Nat) : Int), v]) ∧ TOk b l ∧ w'.ownsRow w.heap.size 2 1 v l.length (nmV l) ∧ Below gs w w'
end Go.Proofs.Ytdljlemgaefbpaa
