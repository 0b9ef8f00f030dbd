/- Differences, part 6: degrees, what an entry must be. -/
import Derived.Test.YtddiielbmjkppaaDf3
import Derived.Deep.RegionWith
import Derived.Deep.DeepCutAuto
import Derived.Deep.CutRange
namespace Go.Proofs.Ytddiielbmjkppaa
open Go.RowKit Go.Joins

theorem mk_ints (n : Nat) (hn : n ≤ 1000) (w : World) : ∃ w', (Instr.makeSlice 24 (.int .i64 (n : Int)) (.int .i64 (n : Int))).run Try.prog w = .ok (.slice (some ⟨w.heap.size, 0, none⟩) n n) w' ∧
    w'.ownsRow w.heap.size 2 1 (.slice (some ⟨w.heap.size, 0, none⟩) n n) n (tab n (fun _ => 0)) ∧ Below w.heap.size w w' := by
  obtain ⟨i, hi, hz, h2, h3⟩ := info_parts infoD
  obtain ⟨w1, hr, hown, hg⟩ := run_makeSlice_full (P := Try.prog) (w := w) w.heap.size 24 2 i _ 1 Try.underlying24 hi hz h2 .i64 .i64 n (by omega) (by rw [h3]; omega) (by simp [maxLen]; omega) (Nat.le_refl _)
  refine ⟨w1, hr, ?_, below_of_grown hg (Nat.le_refl _) (fun x hx => by cases hx)⟩
  have e : (madeCells (Value.cells (.int .i64 0)) (n * 1)).toList = tab n (fun _ => 0) := by
    rw [Nat.mul_one]
    refine List.ext_getElem (by simp [madeCells, tab]) fun i h1 h2 => ?_
    simp [madeCells, tab, Value.cells]
    rw [Nat.mod_one]; rfl
  rw [← e]
  exact hown
def zap (f : Nat → Int) (a : Nat) : Nat → Int := fun x => if x = a then 0 else f x
def one (a : Nat) : Nat → Int := fun x => if x = a then 1 else 0
def put (f : Nat → Int) (a : Nat) (y : Int) : Nat → Int := fun x => if x = a then y else f x
theorem tab_set (n : Nat) (f : Nat → Int) (a : Nat) (y : Int) : (tab n f).set a (.int .i64 y) = tab n (put f a y) := by
  refine List.ext_getElem (by simp [tab]) fun i h1 h2 => ?_
  rw [List.getElem_set]
  simp only [tab, List.getElem_map, List.getElem_range, put]
  by_cases h : a = i
  · simp [h]
  · rw [if_neg h, if_neg (fun e => h e.symm)]
theorem Small.put {M n : Nat} {f : Nat → Int} (h : Small M n f) (a : Nat) (y : Int) (hy : -(M : Int) ≤ y ∧ y ≤ M) : Small M n (put f a y) := by
  intro i hi
  show _ ≤ (if i = a then y else f i) ∧ (if i = a then y else f i) ≤ _
  split
  · exact hy
  · exact h i hi
/-- all are 0 -/
def zer (n : Nat) (f : Nat → Int) : Bool := (List.range n).all fun i => f i == 0
theorem zer_at {n : Nat} {f : Nat → Int} (i : Nat) (hi : i < n) (h : f i ≠ 0) : zer n f = false := by
  unfold zer
  rw [List.all_eq_false]
  exact ⟨i, List.mem_range.2 hi, by simpa using h⟩
theorem zer_all {n : Nat} {f : Nat → Int} (h : ∀ i, i < n → f i = 0) : zer n f = true := by
  unfold zer
  rw [List.all_eq_true]
  intro i hi
  simp [h i (List.mem_range.1 hi)]

set_option maxRecDepth 100000 in
set_option maxHeartbeats 800000 in
theorem areZero_any (B : Nat) (v : Value) (n : Nat) (f : Nat → Int) (w : World) (h : Rd w B v n 1 (tab n f)) (hn : n ≤ 1000) :
    Calls Try.prog 310 #[v] w fun e w' => e = .returned (.bool (zer n f)) ∧ w = w' := by
  have H := Lib.hid h
  obtain ⟨A, c, rfl⟩ := rd_sl h
  clear h
  go_enter Try.func310, Try.ntmps310
  go_wp2_with fail
  go_loop [7] (fun i => ∃ k : Nat, k ≤ n ∧ (∀ j, j < k → f j = 0) ∧ i = .int .i64 (k : Int)) (fun i => n - (intOf i).toNat)
  case atStart => exact ⟨0, Nat.zero_le _, fun j hj => by omega, rfl⟩
  case round =>
    obtain ⟨k, hk, hall, rfl⟩ := hrel
    have Hall := Lib.hid hall
    clear hall
    by_cases hlt : k < n
    · obtain ⟨b1, o1, hA, _, hcc⟩ := rdF_all H.out (by omega)
      subst hA
      have q0 := hcc k hlt
      have hlt' : (k : Int) < (n : Int) := by omega
      have Hst := Lib.hid (fun (h0 : f k = 0) j (hj : j < k + 1) => (show f j = 0 by
        by_cases e : j = k
        · rw [e]; exact h0
        · exact Hall.out j (by omega)))
      have Hbad := Lib.hid (fun (h0 : f k ≠ 0) => zer_at k hlt h0)
      generalize f k = x at *
      clear hcc
      by_cases hx : x = 0
      · have Hn := Lib.hid (Hst.out hx)
        have hx' : (x != 0) = false := by simp [hx]
        subst hx
        go_wp2_with fail
        go_round
        case rel => exact ⟨k + 1, by omega, Hn.out, by go_num⟩
        case measure => simp [intOf]; omega
      · have Hn := Lib.hid (Hbad.out hx)
        have hx' : (x != 0) = true := by simp [hx]
        clear hx
        go_wp2_with fail
        go_ret
        rw [Hn.out]; exact ⟨rfl, rfl⟩
    · have hlt' : (n : Int) ≤ (k : Int) := by omega
      have Hn := Lib.hid (zer_all (n := n) (f := f) (fun i hi => Hall.out i (by omega)))
      go_wp2_with fail
      go_ret
      rw [Hn.out]; exact ⟨rfl, rfl⟩

set_option maxRecDepth 100000 in
set_option maxHeartbeats 800000 in
theorem hasDegree_any (B : Nat) (v : Value) (n M d : Nat) (f : Nat → Int) (w : World) (h : Rd w B v n 1 (tab n f)) (hB : B ≤ w.heap.size) (hn : n ≤ 100) (hd : d + 1 < n) (hS : Small M n f) (hM : 2 ^ (d + 1) * M ≤ 4611686018427387903) :
    Calls Try.prog 177 #[v, .int .i64 (d : Int)] w fun e w' => e = .returned (.bool (zer (n - (d + 1)) (Dn (d + 1) f))) ∧ Below w.heap.size w w' := by
  have HD := Lib.hid (differences_any B v n M (d + 1) f w h hB (by omega) (by omega) (by omega) hS hM)
  rw [show ((d + 1 : Nat) : Int) = (d : Int) + 1 by omega] at HD
  have HZ := Lib.hid (fun Bx wx vx hx => areZero_any Bx vx (n - (d + 1)) (Dn (d + 1) f) wx hx (by omega))
  unfold RetF at HD
  obtain ⟨A, c, rfl⟩ := rd_sl h
  have hd' : ¬ ((n : Int) ≤ (d : Int) + 1) := by omega
  have hdd : (d : Int) < 100 := by omega
  generalize n - (d + 1) = q at *
  clear h hS hM
  go_enter Try.func177, Try.ntmps177
  go_wp2_with fail
  refine HD.out.mono ?_; rintro e w1 ⟨v1, rfl, ho1, hb1⟩
  obtain ⟨A1, c1, rfl⟩ := own_sl ho1
  have HZ1 := Lib.hid (HZ.out _ w1 _ (Rd.of_own ho1))
  clear ho1
  go_wp2_with fail
  refine HZ1.out.mono ?_; rintro e w2 ⟨rfl, rfl⟩
  go_wp2_with fail
  go_ret
  exact ⟨rfl, hb1⟩

/-- what replacement finds: the loop from place i on -/
def rep (r s : Nat → Int) : Nat → Nat → Int → Bool → Int × Bool
  | 0, _, due, _ => (due, true)
  | n + 1, i, due, found =>
    if s i = 0 then (if r i = 0 then rep r s n (i + 1) due found else (0, false))
    else if (r i).tmod (s i) = 0 then (if found = true ∧ (-(r i)).tdiv (s i) ≠ due then (0, false) else rep r s n (i + 1) ((-(r i)).tdiv (s i)) true)
    else (0, false)
theorem tmod_bd {a b : Int} {M : Int} (h : -M ≤ a ∧ a ≤ M) : -M ≤ a.tmod b ∧ a.tmod b ≤ M := by
  have h1 : (a.tmod b).natAbs = a.natAbs % b.natAbs := Int.natAbs_tmod a b
  have h2 := Nat.mod_le a.natAbs b.natAbs
  omega
theorem tdiv_bd {a b : Int} {M : Int} (h : -M ≤ a ∧ a ≤ M) : -M ≤ a.tdiv b ∧ a.tdiv b ≤ M := by
  have h1 : (a.tdiv b).natAbs = a.natAbs / b.natAbs := Int.natAbs_tdiv a b
  have h2 := Nat.div_le_self a.natAbs b.natAbs
  omega
theorem rep_succ (r s : Nat → Int) (n i : Nat) (due : Int) (found : Bool) : rep r s (n + 1) i due found =
    if s i = 0 then (if r i = 0 then rep r s n (i + 1) due found else (0, false))
    else if (r i).tmod (s i) = 0 then (if found = true ∧ (-(r i)).tdiv (s i) ≠ due then (0, false) else rep r s n (i + 1) ((-(r i)).tdiv (s i)) true)
    else (0, false) := rfl
theorem rep_cases (r s : Nat → Int) (n i : Nat) (due : Int) (found : Bool) : (s i = 0 ∧ r i ≠ 0 ∧ rep r s (n + 1) i due found = (0, false)) ∨ (s i = 0 ∧ r i = 0 ∧ rep r s (n + 1) i due found = rep r s n (i + 1) due found) ∨
    (s i ≠ 0 ∧ (r i).tmod (s i) ≠ 0 ∧ rep r s (n + 1) i due found = (0, false)) ∨ (s i ≠ 0 ∧ (r i).tmod (s i) = 0 ∧ found = true ∧ (-(r i)).tdiv (s i) ≠ due ∧ rep r s (n + 1) i due found = (0, false)) ∨
    (s i ≠ 0 ∧ (r i).tmod (s i) = 0 ∧ found = true ∧ (-(r i)).tdiv (s i) = due ∧ rep r s (n + 1) i due found = rep r s n (i + 1) ((-(r i)).tdiv (s i)) true) ∨
    (s i ≠ 0 ∧ (r i).tmod (s i) = 0 ∧ found = false ∧ rep r s (n + 1) i due found = rep r s n (i + 1) ((-(r i)).tdiv (s i)) true) := by
  rw [rep_succ]
  generalize (-(r i)).tdiv (s i) = U
  by_cases h1 : s i = 0
  · by_cases h2 : r i = 0 <;> simp [h1, h2]
  · by_cases h2 : (r i).tmod (s i) = 0
    · cases found with
      | false => simp [h1, h2]
      | true => by_cases h3 : U = due <;> simp [h1, h2, h3]
    · simp [h1, h2]

theorem own_posD {w : World} {base n size : Nat} {e : TypeId} {v : Value} {cs : List Value} (h : w.ownsRow base e size v n cs) (hn : 0 < n) : ∃ g cap, v = .slice (some ⟨g, 0, none⟩) n cap := by
  rcases ownsRow_forms h with ⟨_, h0⟩ | ⟨g, cap, rfl⟩
  · omega
  · exact ⟨g, cap, rfl⟩
theorem own_cellD {w : World} {base n g cap : Nat} {e : TypeId} {f : Nat → Int} (h : w.ownsRow base e 1 (.slice (some ⟨g, 0, none⟩) n cap) n (tab n f)) (j : Nat) (hj : j < n) : w.cell? ⟨g, j, none⟩ = some (.int .i64 (f j)) ∧ w.frozen? ⟨g, j, none⟩ = false :=
  ⟨(h.cellAt j (by omega)).trans (tab_at f hj), h.frozenAt j⟩

end Go.Proofs.Ytddiielbmjkppaa
