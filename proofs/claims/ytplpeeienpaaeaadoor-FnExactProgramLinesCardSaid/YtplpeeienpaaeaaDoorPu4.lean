/- Programs of hand movements, unpacked, part 4: the program's UnpackProgram. -/
import Derived.Test.YtplpeeienpaaeaaDoorPu3
import Derived.Test.YtplpeeienpaaeaaDoorPg5
namespace Go.Proofs.YtplpeeienpaaeaaDoor
open Go.RowKit Go.Joins

/-- what the program hands back -/
def resI (s : List UInt8) : Option (List (Int × Int)) := match s with
  | _ :: c :: l => match parseF 7 c.toNat l with
    | none => none
    | some x => if okProg x.1 = true ∧ sealB (packP x.1) = s then some x.1 else none
  | _ => none
def RetU (res : Option (List (Int × Int))) (w : World) (e : Ending) (w' : World) : Prop :=
  ∃ v, e = .returned (.tuple #[v, .int .i64 (if res.isSome then 0 else 8)]) ∧ w'.ownsRow w.heap.size 67 2 v (res.getD []).length (progs (res.getD [])) ∧ Below w.heap.size w w'
theorem RetU_no {res : Option (List (Int × Int))} {w w' : World} (h : res = none) (hb : Below w.heap.size w w') : RetU res w (.returned (.tuple #[.slice none 0 0, .int .i64 8])) w' := by
  subst h
  exact ⟨_, rfl, World.ownsRow_nil _ _ _ _, hb⟩
theorem RetU_yes {res : Option (List (Int × Int))} {l : List (Int × Int)} {v : Value} {w w' : World} (h : res = some l) (ho : w'.ownsRow w.heap.size 67 2 v l.length (progs l)) (hb : Below w.heap.size w w') : RetU res w (.returned (.tuple #[v, .int .i64 0])) w' := by
  subst h
  exact ⟨_, rfl, ho, hb⟩

/-- how the reading goes on -/
def goOn (f k : Nat) (acc : List (Int × Int)) (R : List UInt8) : Option (List (Int × Int) × List UInt8) := (parseF f k R).map fun y => (acc ++ y.1, y.2)
theorem goOn_0 (f : Nat) (acc : List (Int × Int)) (R : List UInt8) : goOn f 0 acc R = some (acc, R) := by simp [goOn, parseF]
theorem goOn_start (f k : Nat) (R : List UInt8) : goOn f k [] R = parseF f k R := by
  unfold goOn
  cases parseF f k R with
  | none => rfl
  | some x => rfl
theorem goOn_nil (f k : Nat) (acc : List (Int × Int)) : goOn f (k + 1) acc [] = none := rfl
theorem goOn_bad (f k : Nat) (acc : List (Int × Int)) (c : UInt8) (l : List UInt8) (h : numF f 1 0 l = none) : goOn f (k + 1) acc (c :: l) = none := by
  unfold goOn parseF
  rw [h]; rfl
theorem goOn_step (f k : Nat) (acc : List (Int × Int)) (c : UInt8) (l : List UInt8) (v n : Nat) (h : numF f 1 0 l = some (v, n)) : goOn f (k + 1) acc (c :: l) = goOn f k (acc ++ [((c.toNat : Int), (v : Int))]) (l.drop n) := by
  unfold goOn
  rw [parseF, h]
  simp only [Option.map_map]
  congr 1
  funext y
  simp

theorem take_cases {s : ByteArray} {w w' : World} {k : Nat} {acc : List (Int × Int)} {e : Ending} (h : TakeI s w e w') : ∃ (op a : Int) (r : ByteArray) (ok : Bool), e = .returned (.tuple #[.agg #[.int .i64 op, .int .i64 a], .string r, .bool ok]) ∧ Below w.heap.size w w' ∧
    ((ok = false ∧ Hid (goOn 7 (k + 1) acc s.data.toList = none)) ∨ (ok = true ∧ Hid (goOn 7 (k + 1) acc s.data.toList = goOn 7 k (acc ++ [(op, a)]) r.data.toList) ∧ r.size ≤ s.size)) := by
  obtain ⟨op, a, r, ok, he, hb, hm⟩ := h
  refine ⟨op, a, r, ok, he, hb, ?_⟩
  cases hs : s.data.toList with
  | nil =>
    rw [hs] at hm
    exact .inl ⟨hm, Lib.hid (goOn_nil 7 k acc)⟩
  | cons c l =>
    rw [hs] at hm
    simp only at hm
    cases hn : numF 7 1 0 l with
    | none =>
      rw [hn] at hm
      exact .inl ⟨hm, Lib.hid (goOn_bad 7 k acc c l hn)⟩
    | some x =>
      rw [hn] at hm
      obtain ⟨h1, h2, h3, h4⟩ := hm
      refine .inr ⟨h1, Lib.hid ?_, ?_⟩
      · rw [goOn_step 7 k acc c l x.1 x.2 hn, h2, h3, h4]
      · have e1 := congrArg List.length h4
        have e2 := congrArg List.length hs
        simp at e1 e2
        rw [e1, e2]; omega

theorem progs_snoc (l : List (Int × Int)) (op a : Int) : progs l ++ (#[Value.int .i64 op, Value.int .i64 a] : Array Value).toList = progs (l ++ [(op, a)]) := by
  unfold progs
  rw [List.flatMap_append]; rfl
theorem ones_two (a b : Int) : ∀ u ∈ (#[Value.int .i64 a, Value.int .i64 b] : Array Value).toList, u.oneCell' = true := by
  intro u hu
  simp at hu
  rcases hu with rfl | rfl <;> rfl

end Go.Proofs.YtplpeeienpaaeaaDoor
