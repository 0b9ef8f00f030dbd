/- Fewest turns, part 2: turns made by the program. -/
import Derived.Test.YtdljlemgaefbpaaFew1
import Derived.Test.YtdljlemgaefbpaaDf6
import Derived.Test.YtdljlemgaefbpaaLib5
import Derived.Test.YtdljlemgaefbpaaDd1
namespace Go.Proofs.Ytdljlemgaefbpaa
open Go.RowKit Go.Joins

theorem isBase_ok (b : Nat) (w : World) (h1 : 2 ≤ b) (h2 : b ≤ 16) : Calls Try.prog 105 #[.int .i64 (b : Int)] w fun e w' => e = .returned (.bool true) ∧ w = w' := by
  have HB := Lib.hid (fun wx => between_any (b : Int) 2 16 wx)
  rw [inB_true (by omega) (by omega)] at HB
  go_enter Try.func105, Try.ntmps105
  go_wp2_with fail
  refine (HB.out _).mono ?_; rintro e w1 ⟨rfl, rfl⟩
  go_wp2_with fail
  go_ret
  exact ⟨rfl, rfl⟩
def nmV (l : List Int) : List Value := l.map (Value.int .i64)
def at0 (l : List Int) (i : Nat) : Int := l.getD i 0
theorem nmV_tab (l : List Int) : nmV l = tab l.length (at0 l) := by
  refine List.ext_getElem (by simp [nmV, tab]) fun i h1 h2 => ?_
  have : i < l.length := by simpa [nmV] using h1
  simp [nmV, tab, at0, List.getD, this]
theorem nmV_app (l : List Int) (x : Int) : nmV (l ++ [x]) = nmV l ++ [.int .i64 x] := by simp [nmV]
/-- a list of numbers of the call's own is handed back -/
def RetL (w : World) (l : List Int) (e : Ending) (w' : World) : Prop :=
  ∃ v, e = .returned v ∧ w'.ownsRow w.heap.size 2 1 v l.length (nmV l) ∧ Below w.heap.size w w'
theorem few_len {b N : Nat} (hb : 2 ≤ b) (hN : N ≤ 62500000) : (few b N).length ≤ 28 := gn_len (nxF_lt hb) (nxF_half hb) 26 N (by omega)
theorem pln_len {b N : Nat} (hb : 2 ≤ b) (hN : N ≤ 62500000) : (pln b N).length ≤ 28 := gn_len (nxP_lt hb) (nxP_half hb) 26 N (by omega)

end Go.Proofs.Ytdljlemgaefbpaa
