/- Differences, part 6: degrees, what an entry must be. -/
import Derived.Test.YtdljlemgaefbpaaDf3
import Derived.Deep.RegionWith
import Derived.Deep.DeepCutAuto
import Derived.Deep.CutRange
namespace Go.Proofs.Ytdljlemgaefbpaa
open Go.RowKit Go.Joins

theorem mk_ints (n : Nat) (hn : n ≤ 1000) (w : World) : ∃ w', (Instr.makeSlice 24 (.int .i64 (n : Int)) (.int .i64 (n : Int))).run Try.prog w = .ok (.slice (some ⟨w.heap.size, 0, none⟩) n n) w' ∧
    w'.ownsRow w.heap.size 2 1 (.slice (some ⟨w.heap.size, 0, none⟩) n n) n (tab n (fun _ => 0)) ∧ Below w.heap.size w w' := by
  obtain ⟨i, hi, hz, h2, h3⟩ := info_parts infoD
  obtain ⟨w1, hr, hown, hg⟩ := run_makeSlice_full (P := Try.prog) (w := w) w.heap.size 24 2 i _ 1 Try.underlying24 hi hz h2 .i64 .i64 n (by omega) (by rw [h3]; omega) (by simp [maxLen]; omega) (Nat.le_refl _)
  refine ⟨w1, hr, ?_, below_of_grown hg (Nat.le_refl _) (fun x hx => by cases hx)⟩
  have e : (madeCells (Value.cells (.int .i64 0)) (n * 1)).toList = tab n (fun _ => 0) := by
    rw [Nat.mul_one]
    refine List.ext_getElem (by simp [madeCells, tab]) fun i h1 h2 => ?_
    simp [madeCells, tab, Value.cells]
    rw [Nat.mod_one]; rfl
  rw [← e]
  exact hown
def zap (f : Nat → Int) (a : Nat) : Nat → Int := fun x => if x = a then 0 else f x
def one (a : Nat) : Nat → Int := fun x => if x = a then 1 else 0
def put (f : Nat → Int) (a : Nat) (y : Int) : Nat → Int := fun x => if x = a then y else f x
theorem tab_set (n : Nat) (f : Nat → Int) (a : Nat) (y : Int) : (tab n f).set a (.int .i64 y) = tab n (put f a y) := by
  refine List.ext_getElem (by simp [tab]) fun i h1 h2 => ?_
  rw [List.getElem_set]
  simp only [tab, List.getElem_map, List.getElem_range, put]
  by_cases h : a = i
  · simp [h]
  · rw [if_neg h, if_neg (fun e => h e.symm)]
theorem Small.put {M n : Nat} {f : Nat → Int} (h : Small M n f) (a : Nat) (y : Int) (hy : -(M : Int) ≤ y ∧ y ≤ M) : Small M n (put f a y) := by
  intro i hi
  show _ ≤ (if i = a then y else f i) ∧ (if i = a then y else f i) ≤ _
  split
  · exact hy
  · exact h i hi
/-- all are 0 -/
def zer (n : Nat) (f : Nat → Int) : Bool := (List.range n).all fun i => f i == 0
theorem zer_at {n : Nat} {f : Nat → Int} (i : Nat) (hi : i < n) (h : f i ≠ 0) : zer n f = false := by
  unfold zer
  rw [List.all_eq_false]
  exact ⟨i, List.mem_range.2 hi, by simpa using h⟩
theorem zer_all {n : Nat} {f : Nat → Int} (h : ∀ i, i < n → f i = 0) : zer n f = true := by
  unfold zer
  rw [List.all_eq_true]
  intro i hi
  simp [h i (List.mem_range.1 hi)]

/-- what replacement finds: the loop from place i on -/
def rep (r s : Nat → Int) : Nat → Nat → Int → Bool → Int × Bool
  | 0, _, due, _ => (due, true)
  | n + 1, i, due, found =>
    if s i = 0 then (if r i = 0 then rep r s n (i + 1) due found else (0, false))
    else if (r i).tmod (s i) = 0 then (if found = true ∧ (-(r i)).tdiv (s i) ≠ due then (0, false) else rep r s n (i + 1) ((-(r i)).tdiv (s i)) true)
    else (0, false)
theorem tmod_bd {a b : Int} {M : Int} (h : -M ≤ a ∧ a ≤ M) : -M ≤ a.tmod b ∧ a.tmod b ≤ M := by
  have h1 : (a.tmod b).natAbs = a.natAbs % b.natAbs := Int.natAbs_tmod a b
  have h2 := Nat.mod_le a.natAbs b.natAbs
  omega
theorem tdiv_bd {a b : Int} {M : Int} (h : -M ≤ a ∧ a ≤ M) : -M ≤ a.tdiv b ∧ a.tdiv b ≤ M := by
  have h1 : (a.tdiv b).natAbs = a.natAbs / b.natAbs := Int.natAbs_tdiv a b
  have h2 := Nat.div_le_self a.natAbs b.natAbs
  omega
theorem rep_succ (r s : Nat → Int) (n i : Nat) (due : Int) (found : Bool) : rep r s (n + 1) i due found =
    if s i = 0 then (if r i = 0 then rep r s n (i + 1) due found else (0, false))
    else if (r i).tmod (s i) = 0 then (if found = true ∧ (-(r i)).tdiv (s i) ≠ due then (0, false) else rep r s n (i + 1) ((-(r i)).tdiv (s i)) true)
    else (0, false) := rfl
theorem rep_cases (r s : Nat → Int) (n i : Nat) (due : Int) (found : Bool) : (s i = 0 ∧ r i ≠ 0 ∧ rep r s (n + 1) i due found = (0, false)) ∨ (s i = 0 ∧ r i = 0 ∧ rep r s (n + 1) i due found = rep r s n (i + 1) due found) ∨
    (s i ≠ 0 ∧ (r i).tmod (s i) ≠ 0 ∧ rep r s (n + 1) i due found = (0, false)) ∨ (s i ≠ 0 ∧ (r i).tmod (s i) = 0 ∧ found = true ∧ (-(r i)).tdiv (s i) ≠ due ∧ rep r s (n + 1) i due found = (0, false)) ∨
    (s i ≠ 0 ∧ (r i).tmod (s i) = 0 ∧ found = true ∧ (-(r i)).tdiv (s i) = due ∧ rep r s (n + 1) i due found = rep r s n (i + 1) ((-(r i)).tdiv (s i)) true) ∨
    (s i ≠ 0 ∧ (r i).tmod (s i) = 0 ∧ found = false ∧ rep r s (n + 1) i due found = rep r s n (i + 1) ((-(r i)).tdiv (s i)) true) := by
  rw [rep_succ]
  generalize (-(r i)).tdiv (s i) = U
  by_cases h1 : s i = 0
  · by_cases h2 : r i = 0 <;> simp [h1, h2]
  · by_cases h2 : (r i).tmod (s i) = 0
    · cases found with
      | false => simp [h1, h2]
      | true => by_cases h3 : U = due <;> simp [h1, h2, h3]
    · simp [h1, h2]

theorem own_posD {w : World} {base n size : Nat} {e : TypeId} {v : Value} {cs : List Value} (h : w.ownsRow base e size v n cs) (hn : 0 < n) : ∃ g cap, v = .slice (some ⟨g, 0, none⟩) n cap := by
  rcases ownsRow_forms h with ⟨_, h0⟩ | ⟨g, cap, rfl⟩
  · omega
  · exact ⟨g, cap, rfl⟩
theorem own_cellD {w : World} {base n g cap : Nat} {e : TypeId} {f : Nat → Int} (h : w.ownsRow base e 1 (.slice (some ⟨g, 0, none⟩) n cap) n (tab n f)) (j : Nat) (hj : j < n) : w.cell? ⟨g, j, none⟩ = some (.int .i64 (f j)) ∧ w.frozen? ⟨g, j, none⟩ = false :=
  ⟨(h.cellAt j (by omega)).trans (tab_at f hj), h.frozenAt j⟩

end Go.Proofs.Ytdljlemgaefbpaa
