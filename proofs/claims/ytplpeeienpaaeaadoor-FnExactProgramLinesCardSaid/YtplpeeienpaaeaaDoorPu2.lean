/- Programs of hand movements, unpacked, part 2: takeInstr. -/
import Derived.Test.YtplpeeienpaaeaaDoorPu1
import Derived.StillTailTactics
namespace Go.Proofs.YtplpeeienpaaeaaDoor
open Go.RowKit Go.Joins

theorem blk2f {w : World} {g : Nat} {a b : Value} {t : TypeId} (h : w.heap[g]? = some (.cells #[a, b] t (0, 0))) :
    w.cell? ⟨g, 0, none⟩ = some a ∧ w.cell? ⟨g, 1, none⟩ = some b ∧ w.frozen? ⟨g, 0, none⟩ = false ∧ w.frozen? ⟨g, 1, none⟩ = false := blk2 h
/-- what is left to read -/
def restF (f u a j : Nat) (l : List UInt8) : Option (Nat × Nat) := (numF f u a l).map fun x => (x.1, x.2 + j)
theorem restF_0 (l : List UInt8) (f : Nat) : restF f 1 0 0 l = numF f 1 0 l := by
  unfold restF
  cases numF f 1 0 l with
  | none => rfl
  | some x => rfl
theorem restF_end (u a j : Nat) (l : List UInt8) (f : Nat) (h : f = 0 ∨ l = []) : restF f u a j l = none := by
  rcases h with rfl | rfl
  · rfl
  · cases f <;> rfl
theorem restF_last (f u a j : Nat) (c : UInt8) (l : List UInt8) (h : c.toNat < 128) : restF (f + 1) u a j (c :: l) = some (a + c.toNat % 128 * u, j + 1) := by
  unfold restF
  simp only [numF, if_pos h, Option.map_some]
  rw [Nat.add_comm 1 j]
theorem restF_more (f u a j : Nat) (c : UInt8) (l : List UInt8) (h : ¬ c.toNat < 128) : restF (f + 1) u a j (c :: l) = restF f (u * 128) (a + c.toNat % 128 * u) (j + 1) l := by
  unfold restF
  simp only [numF, if_neg h, Option.map_map]
  congr 1
  funext x
  simp only [Function.comp, Prod.mk.injEq, true_and]
  omega

def TakeI (s : ByteArray) (w : World) (e : Ending) (w' : World) : Prop :=
  ∃ (op a : Int) (r : ByteArray) (ok : Bool), e = .returned (.tuple #[.agg #[.int .i64 op, .int .i64 a], .string r, .bool ok]) ∧ Below w.heap.size w w' ∧
    match s.data.toList with
    | [] => ok = false
    | c :: l => match numF 7 1 0 l with
      | none => ok = false
      | some (v, n) => ok = true ∧ op = c.toNat ∧ a = v ∧ r.data.toList = l.drop n

theorem TakeI_yes {s r : ByteArray} {w w' : World} {c : UInt8} {l : List UInt8} {v n : Nat} {a : Int} (h1 : s.data.toList = c :: l) (h2 : numF 7 1 0 l = some (v, n)) (h3 : Below w.heap.size w w') (h4 : a = (v : Int)) (h5 : r.data.toList = l.drop n) :
    TakeI s w (.returned (.tuple #[.agg #[.int .i64 (c.toNat : Int), .int .i64 a], .string r, .bool true])) w' := by
  refine ⟨_, _, _, _, rfl, h3, ?_⟩
  rw [h1]
  simp only [h2]
  exact ⟨trivial, trivial, h4, h5⟩
theorem TakeI_no1 {s : ByteArray} {w w' : World} (h1 : s.data.toList = []) (h3 : Below w.heap.size w w') : TakeI s w (.returned (.tuple #[.agg #[.int .i64 0, .int .i64 0], .string ⟨#[]⟩, .bool false])) w' := by
  refine ⟨_, _, _, _, rfl, h3, ?_⟩
  rw [h1]
theorem TakeI_no2 {s : ByteArray} {w w' : World} {c : UInt8} {l : List UInt8} (h1 : s.data.toList = c :: l) (h2 : numF 7 1 0 l = none) (h3 : Below w.heap.size w w') : TakeI s w (.returned (.tuple #[.agg #[.int .i64 0, .int .i64 0], .string ⟨#[]⟩, .bool false])) w' := by
  refine ⟨_, _, _, _, rfl, h3, ?_⟩
  rw [h1]
  simp only [h2]
theorem extr_list (s : ByteArray) (k : Nat) : (s.extract k s.size).data.toList = s.data.toList.drop k := by
  obtain ⟨⟨l⟩⟩ := s
  simp [ByteArray.size]
  rw [List.take_of_length_le (by simp)]

end Go.Proofs.YtplpeeienpaaeaaDoor
