/- Merged texts: Df6, Src, Long, Df4, Df5, Df7, Df8, Dd1, Tr2, Fi2, Jb1, Pc1, Pc2, Pc3, Pc4, Pc5, U3. -/
import Derived.Test.YtepgfcjfdnakbaaDoorGCardJobs1
import Derived.Deep.RegionWith
import Derived.Deep.DeepCutAuto
import Derived.Deep.CutRange
import Derived.Lib.SmallJoins
import Derived.Laws.BitsAllLaws
/- Differences, part 6: degrees, what an entry must be. -/
namespace Go.Proofs.YtepgfcjfdnakbaaDoor
open Go.RowKit Go.Joins

theorem mk_ints (n : Nat) (hn : n ≤ 1000) (w : World) : ∃ w', (Instr.makeSlice 29 (.int .i64 (n : Int)) (.int .i64 (n : Int))).run Tryd.prog w = .ok (.slice (some ⟨w.heap.size, 0, none⟩) n n) w' ∧
    w'.ownsRow w.heap.size 2 1 (.slice (some ⟨w.heap.size, 0, none⟩) n n) n (tab n (fun _ => 0)) ∧ Below w.heap.size w w' := by
  obtain ⟨i, hi, hz, h2, h3⟩ := info_parts infoD
  obtain ⟨w1, hr, hown, hg⟩ := run_makeSlice_full (P := Tryd.prog) (w := w) w.heap.size 29 2 i _ 1 Tryd.underlying29 hi hz h2 .i64 .i64 n (by omega) (by rw [h3]; omega) (by simp [maxLen]; omega) (Nat.le_refl _)
  refine ⟨w1, hr, ?_, below_of_grown hg (Nat.le_refl _) (fun x hx => by cases hx)⟩
  have e : (madeCells (Value.cells (.int .i64 0)) (n * 1)).toList = tab n (fun _ => 0) := by
    rw [Nat.mul_one]
    refine List.ext_getElem (by simp [madeCells, tab]) fun i h1 h2 => ?_
    simp [madeCells, tab, Value.cells]
    rw [Nat.mod_one]; rfl
  rw [← e]
  exact hown
def zap (f : Nat → Int) (a : Nat) : Nat → Int := fun x => if x = a then 0 else f x
def one (a : Nat) : Nat → Int := fun x => if x = a then 1 else 0
def put (f : Nat → Int) (a : Nat) (y : Int) : Nat → Int := fun x => if x = a then y else f x
theorem tab_set (n : Nat) (f : Nat → Int) (a : Nat) (y : Int) : (tab n f).set a (.int .i64 y) = tab n (put f a y) := by
  refine List.ext_getElem (by simp [tab]) fun i h1 h2 => ?_
  rw [List.getElem_set]
  simp only [tab, List.getElem_map, List.getElem_range, put]
  by_cases h : a = i
  · simp [h]
  · rw [if_neg h, if_neg (fun e => h e.symm)]
theorem Small.put {M n : Nat} {f : Nat → Int} (h : Small M n f) (a : Nat) (y : Int) (hy : -(M : Int) ≤ y ∧ y ≤ M) : Small M n (put f a y) := by
  intro i hi
  show _ ≤ (if i = a then y else f i) ∧ (if i = a then y else f i) ≤ _
  split
  · exact hy
  · exact h i hi
/-- all are 0 -/
def zer (n : Nat) (f : Nat → Int) : Bool := (List.range n).all fun i => f i == 0
theorem zer_at {n : Nat} {f : Nat → Int} (i : Nat) (hi : i < n) (h : f i ≠ 0) : zer n f = false := by
  unfold zer
  rw [List.all_eq_false]
  exact ⟨i, List.mem_range.2 hi, by simpa using h⟩
theorem zer_all {n : Nat} {f : Nat → Int} (h : ∀ i, i < n → f i = 0) : zer n f = true := by
  unfold zer
  rw [List.all_eq_true]
  intro i hi
  simp [h i (List.mem_range.1 hi)]

/-- what replacement finds: the loop from place i on -/
def rep (r s : Nat → Int) : Nat → Nat → Int → Bool → Int × Bool
  | 0, _, due, _ => (due, true)
  | n + 1, i, due, found =>
    if s i = 0 then (if r i = 0 then rep r s n (i + 1) due found else (0, false))
    else if (r i).tmod (s i) = 0 then (if found = true ∧ (-(r i)).tdiv (s i) ≠ due then (0, false) else rep r s n (i + 1) ((-(r i)).tdiv (s i)) true)
    else (0, false)
theorem tmod_bd {a b : Int} {M : Int} (h : -M ≤ a ∧ a ≤ M) : -M ≤ a.tmod b ∧ a.tmod b ≤ M := by
  have h1 : (a.tmod b).natAbs = a.natAbs % b.natAbs := Int.natAbs_tmod a b
  have h2 := Nat.mod_le a.natAbs b.natAbs
  omega
theorem tdiv_bd {a b : Int} {M : Int} (h : -M ≤ a ∧ a ≤ M) : -M ≤ a.tdiv b ∧ a.tdiv b ≤ M := by
  have h1 : (a.tdiv b).natAbs = a.natAbs / b.natAbs := Int.natAbs_tdiv a b
  have h2 := Nat.div_le_self a.natAbs b.natAbs
  omega
theorem rep_succ (r s : Nat → Int) (n i : Nat) (due : Int) (found : Bool) : rep r s (n + 1) i due found =
    if s i = 0 then (if r i = 0 then rep r s n (i + 1) due found else (0, false))
    else if (r i).tmod (s i) = 0 then (if found = true ∧ (-(r i)).tdiv (s i) ≠ due then (0, false) else rep r s n (i + 1) ((-(r i)).tdiv (s i)) true)
    else (0, false) := rfl
theorem rep_cases (r s : Nat → Int) (n i : Nat) (due : Int) (found : Bool) : (s i = 0 ∧ r i ≠ 0 ∧ rep r s (n + 1) i due found = (0, false)) ∨ (s i = 0 ∧ r i = 0 ∧ rep r s (n + 1) i due found = rep r s n (i + 1) due found) ∨
    (s i ≠ 0 ∧ (r i).tmod (s i) ≠ 0 ∧ rep r s (n + 1) i due found = (0, false)) ∨ (s i ≠ 0 ∧ (r i).tmod (s i) = 0 ∧ found = true ∧ (-(r i)).tdiv (s i) ≠ due ∧ rep r s (n + 1) i due found = (0, false)) ∨
    (s i ≠ 0 ∧ (r i).tmod (s i) = 0 ∧ found = true ∧ (-(r i)).tdiv (s i) = due ∧ rep r s (n + 1) i due found = rep r s n (i + 1) ((-(r i)).tdiv (s i)) true) ∨
    (s i ≠ 0 ∧ (r i).tmod (s i) = 0 ∧ found = false ∧ rep r s (n + 1) i due found = rep r s n (i + 1) ((-(r i)).tdiv (s i)) true) := by
  rw [rep_succ]
  generalize (-(r i)).tdiv (s i) = U
  by_cases h1 : s i = 0
  · by_cases h2 : r i = 0 <;> simp [h1, h2]
  · by_cases h2 : (r i).tmod (s i) = 0
    · cases found with
      | false => simp [h1, h2]
      | true => by_cases h3 : U = due <;> simp [h1, h2, h3]
    · simp [h1, h2]

theorem own_posD {w : World} {base n size : Nat} {e : TypeId} {v : Value} {cs : List Value} (h : w.ownsRow base e size v n cs) (hn : 0 < n) : ∃ g cap, v = .slice (some ⟨g, 0, none⟩) n cap := by
  rcases ownsRow_forms h with ⟨_, h0⟩ | ⟨g, cap, rfl⟩
  · omega
  · exact ⟨g, cap, rfl⟩
theorem own_cellD {w : World} {base n g cap : Nat} {e : TypeId} {f : Nat → Int} (h : w.ownsRow base e 1 (.slice (some ⟨g, 0, none⟩) n cap) n (tab n f)) (j : Nat) (hj : j < n) : w.cell? ⟨g, j, none⟩ = some (.int .i64 (f j)) ∧ w.frozen? ⟨g, j, none⟩ = false :=
  ⟨(h.cellAt j (by omega)).trans (tab_at f hj), h.frozenAt j⟩

end Go.Proofs.YtepgfcjfdnakbaaDoor
/- The source of draws (l00Src): what each draw hands back, and that only its own block turns. -/
namespace Go.Proofs.YtepgfcjfdnakbaaDoor
open Go.RowKit Go.Joins

/-- block g is a source over the bytes bs, at most k of its draws are done; the bytes lie below block B -/
def SrcAt (w : World) (B g k : Nat) (bs : List UInt8) : Prop :=
  ∃ (cv : Value) (p s : Nat), w.heap[g]? = some (.cells #[cv, .int .i64 p, .int .u64 s] 96 (0, 0)) ∧ Rd w B cv bs.length 1 (bs.map byV) ∧ p ≤ k ∧ s < 18446744073709551616 ∧ B ≤ g

theorem SrcAt.lt {w : World} {B g k : Nat} {bs : List UInt8} (h : SrcAt w B g k bs) : g < w.heap.size := by
  obtain ⟨cv, p, s, h, _⟩ := h
  exact (Array.getElem?_eq_some_iff.1 h).1
theorem SrcAt.more {w : World} {B g k k' : Nat} {bs : List UInt8} (h : SrcAt w B g k bs) (hk : k ≤ k') : SrcAt w B g k' bs := by
  obtain ⟨cv, p, s, h1, h2, h3, h4, h5⟩ := h
  exact ⟨cv, p, s, h1, h2, by omega, h4, h5⟩
/-- kept by all that leaves its blocks alone -/
theorem SrcAt.grown {w w' : World} {B g k : Nat} {bs : List UInt8} {r : Option Nat} (h : SrcAt w B g k bs) (hg : w.grownBy w' r) (hr : ∀ x, r = some x → g < x) : SrcAt w' B g k bs := by
  obtain ⟨cv, p, s, h1, h2, h3, h4, h5⟩ := h
  have hlt := (Array.getElem?_eq_some_iff.1 h1).1
  refine ⟨cv, p, s, (hg.block g hlt (fun e => by have := hr g e.symm; omega)).trans h1, h2.keep fun q hq => World.cell?_of_block (hg.block q.block (by omega) (fun e => by have := hr _ e.symm; omega)), h3, h4, h5⟩
theorem SrcAt.below {w w' : World} {B g k : Nat} {bs : List UInt8} (h : SrcAt w B g k bs) (hb : Below w.heap.size w w') : SrcAt w' B g k bs := h.grown (grown_of_below hb none) (fun x hx => by cases hx)
theorem SrcAt.drewN {w : World} {B g k : Nat} {bs : List UInt8} (h : SrcAt w B g k bs) (n : Nat) : SrcAt (w.drewN n) B g k bs := h
theorem SrcAt.drew {w : World} {B g k : Nat} {bs : List UInt8} (h : SrcAt w B g k bs) : SrcAt w.drew B g k bs := h

/-- a draw: a number with a property is handed back, only block g has turned -/
def Drawn (w : World) (B g k : Nat) (bs : List UInt8) (p : Int → Prop) (e : Ending) (w' : World) : Prop :=
  ∃ x, e = .returned (.int .i64 x) ∧ p x ∧ SrcAt w' B g k bs ∧ w.grownBy w' (some g)

theorem src_cells {w : World} {g : Nat} {a b c : Value} {t : TypeId} (h : w.heap[g]? = some (.cells #[a, b, c] t (0, 0))) :
    w.cell? ⟨g, 0, none⟩ = some a ∧ w.cell? ⟨g, 1, none⟩ = some b ∧ w.cell? ⟨g, 2, none⟩ = some c ∧ ∀ i, w.frozen? ⟨g, i, none⟩ = false := by
  refine ⟨?_, ?_, ?_, fun i => ?_⟩
  · rw [cell_of_row w g 0 _ _ _ h]; rfl
  · rw [cell_of_row w g 1 _ _ _ h]; rfl
  · rw [cell_of_row w g 2 _ _ _ h]; rfl
  · exact frozen_of_row w g i _ _ h

theorem u64_bd (x : Int) : 0 ≤ IntKind.u64.wrap x ∧ IntKind.u64.wrap x < 18446744073709551616 := by
  rw [IntKind.wrap_u64]; omega

theorem src_step {w : World} {B g k p : Nat} {c0 c2 : Value} {bs : List UInt8} (h1 : w.heap[g]? = some (.cells #[c0, .int .i64 p, c2] 96 (0, 0))) (h2 : Rd w B c0 bs.length 1 (bs.map byV)) (h3 : p ≤ k) (h5 : B ≤ g) (X : Int) (a b : Nat) :
    SrcAt ((((w.drewN a).setCell ⟨g, 1, none⟩ (.int .i64 ((p : Int) + 1))).setCell ⟨g, 2, none⟩ (.int .u64 (IntKind.u64.wrap X))).drewN b) B g (k + 1) bs ∧
    w.grownBy ((((w.drewN a).setCell ⟨g, 1, none⟩ (.int .i64 ((p : Int) + 1))).setCell ⟨g, 2, none⟩ (.int .u64 (IntKind.u64.wrap X))).drewN b) (some g) := by
  have hh := u64_bd X
  have e1 := heap_setCell_same (w.drewN a) g 1 _ _ (.int .i64 ((p : Int) + 1)) h1
  have e2 := heap_setCell_same _ g 2 _ _ (.int .u64 (IntKind.u64.wrap X)) e1
  have hg : w.grownBy ((((w.drewN a).setCell ⟨g, 1, none⟩ (.int .i64 ((p : Int) + 1))).setCell ⟨g, 2, none⟩ (.int .u64 (IntKind.u64.wrap X))).drewN b) (some g) := by
    refine ⟨rfl, rfl, rfl, by simp [World.setCell, World.drewN], fun i _ hne => ?_⟩
    have hi : i ≠ g := fun e => hne (by rw [e])
    show ((((w.drewN a).setCell ⟨g, 1, none⟩ _).setCell ⟨g, 2, none⟩ _)).heap[i]? = _
    rw [Below.heap_setCell _ _ _ _ hi, Below.heap_setCell _ _ _ _ hi]
    rfl
  refine ⟨⟨c0, p + 1, (IntKind.u64.wrap X).toNat, ?_, ?_, by omega, by omega, h5⟩, hg⟩
  · rw [Int.toNat_of_nonneg hh.1]
    exact e2
  · refine h2.keep fun q hq => World.cell?_of_block ?_
    have hlt : g < w.heap.size := (Array.getElem?_eq_some_iff.1 h1).1
    exact hg.block q.block (by omega) (fun e => by injection e with e; omega)

theorem and255 (X : Int) (h0 : 0 ≤ X) (h1 : X < 18446744073709551616) : 0 ≤ wrap64 (bits .and .u64 X 255) ∧ wrap64 (bits .and .u64 X 255) ≤ 255 := by
  rw [u64_and X 255 h0 h1 (by omega) (by omega)]
  have h := Nat.and_le_right (n := X.toNat) (m := (255 : Int).toNat)
  have h' : (255 : Int).toNat = 255 := rfl
  rw [IntWalk.wrap64_in _ ⟨by omega, by omega⟩]
  omega

set_option maxRecDepth 100000 in
set_option maxHeartbeats 800000 in
theorem next_any (B g k : Nat) (bs : List UInt8) (w : World) (h : SrcAt w B g k bs) (hk : k < 4611686018427387904) :
    Calls Tryd.prog 96 #[.pointer (some ⟨g, 0, none⟩)] w (Drawn w B g (k + 1) bs fun x => 0 ≤ x ∧ x ≤ 255) := by
  obtain ⟨cv, p, s, h1, hRd, h3, h4, h5⟩ := h
  have hRd' := hRd
  obtain ⟨_, A, c, rfl, h2⟩ := hRd'
  have hRd := Lib.hid hRd
  obtain ⟨hc0, hc1, hc2, hfz⟩ := src_cells h1
  have hf1 := hfz 1
  have hf2 := hfz 2
  clear hfz
  have H1 := Lib.hid h1; clear h1
  have H2 := Lib.hid h2; clear h2
  by_cases hlt : p < bs.length
  · obtain ⟨b1, o1, rfl, hb1, hcc⟩ := H2.out (by omega)
    have hx := hcc p (byV bs[p]) (by simp [hlt])
    have hne : b1 ≠ g := by omega
    have hlt' : (p : Int) < (bs.length : Int) := by omega
    clear hcc
    unfold byV at hx
    have hx8 := bs[p].toNat_lt
    generalize bs[p].toNat = x at *
    have hxb : (x : Int) < 256 := by omega
    have hxi : (0 : Int) ≤ (x : Int) := by omega
    clear hx8
    have hwx : IntKind.i64.wrap (x : Int) = x := IntWalk.i64_in _ (by omega)
    go_enter Tryd.func96, Tryd.ntmps96
    go_wp2_with fail
    go_quiet (fail)
    go_wp2_with fail
    go_quiet (fail)
    clear hwx
    go_wp2_with fail
    go_quiet (fail)
    go_wp2_with fail
    go_ret
    have hs := src_step H1.out (hRd.out) h3 h5
    exact ⟨_, rfl, ⟨by omega, by omega⟩, (hs _ _ _).1, (hs _ _ _).2⟩
  · have hge : (bs.length : Int) ≤ (p : Int) := by omega
    go_enter Tryd.func96, Tryd.ntmps96
    go_wp2_with fail
    go_quiet (fail)
    go_wp2_with fail
    go_quiet (fail)
    go_wp2_with fail
    go_ret
    have hs := src_step H1.out (hRd.out) h3 h5
    exact ⟨_, rfl, and255 _ (by have := u64_bd (IntKind.u64.wrap (IntKind.u64.wrap ((s : Int) * 6364136223846793005)) + 1442695040888963407); omega) (by have := u64_bd (IntKind.u64.wrap (IntKind.u64.wrap ((s : Int) * 6364136223846793005)) + 1442695040888963407); omega), (hs _ _ _).1, (hs _ _ _).2⟩
/-- a draw: a bool is handed back -/
def DrawnB (w : World) (B g k : Nat) (bs : List UInt8) (e : Ending) (w' : World) : Prop :=
  ∃ x : Bool, e = .returned (.bool x) ∧ SrcAt w' B g k bs ∧ w.grownBy w' (some g)

set_option maxRecDepth 100000 in
set_option maxHeartbeats 800000 in
theorem pick_any (B g k : Nat) (bs : List UInt8) (n : Int) (w : World) (h : SrcAt w B g k bs) (hk : k < 4611686018427387900) :
    Calls Tryd.prog 70 #[.pointer (some ⟨g, 0, none⟩), .int .i64 n] w (Drawn w B g (k + 2) bs fun x => 0 ≤ x ∧ (2 ≤ n → x < n) ∧ (n ≤ 1 → x = 0)) := by
  by_cases h1 : n ≤ 1
  · have hg0 : w.grownBy w (some g) := ⟨rfl, rfl, rfl, Nat.le_refl _, fun _ _ _ => rfl⟩
    have H := Lib.hid h; clear h
    go_enter Tryd.func70, Tryd.ntmps70
    go_wp2_with fail
    go_ret
    exact ⟨0, rfl, ⟨by omega, by omega, by omega⟩, H.out.more (by omega), hg0⟩
  · by_cases h2 : n ≤ 200
    · have H := Lib.hid h; clear h
      go_enter Tryd.func70, Tryd.ntmps70
      go_wp2_with fail
      refine (next_any B g k bs _ H.out (by omega)).mono ?_; rintro e w1 ⟨x, rfl, ⟨hx0, hx1⟩, hs1, hg1⟩
      have Hs1 := Lib.hid hs1; clear hs1
      go_wp2_with fail
      go_ret
      have := Int.emod_nonneg x (by omega : n ≠ 0)
      have := Int.emod_lt_of_pos x (by omega : 0 < n)
      exact ⟨_, rfl, ⟨by omega, by omega, by omega⟩, Hs1.out.more (by omega), hg1⟩
    · have H := Lib.hid h; clear h
      go_enter Tryd.func70, Tryd.ntmps70
      go_wp2_with fail
      refine (next_any B g k bs _ H.out (by omega)).mono ?_; rintro e w1 ⟨x, rfl, ⟨hx0, hx1⟩, hs1, hg1⟩
      have Hs1 := Lib.hid hs1; clear hs1
      go_wp2_with fail
      refine (next_any B g (k + 1) bs _ Hs1.out (by omega)).mono ?_; rintro e w2 ⟨y, rfl, ⟨hy0, hy1⟩, hs2, hg2⟩
      have Hs2 := Lib.hid hs2; clear hs2
      have hg := grown_trans hg1 hg2
      go_wp2_with fail
      go_ret
      have := Int.emod_nonneg (x * 256 + y) (by omega : n ≠ 0)
      have := Int.emod_lt_of_pos (x * 256 + y) (by omega : 0 < n)
      exact ⟨_, rfl, ⟨by omega, by omega, by omega⟩, Hs2.out, hg⟩

set_option maxHeartbeats 400000 in
theorem l00From_any (B : Nat) (cv : Value) (bs : List UInt8) (w : World) (h : Rd w B cv bs.length 1 (bs.map byV)) (hB : B ≤ w.heap.size) :
    Calls Tryd.prog 52 #[cv] w fun e w' => e = .returned (.pointer (some ⟨w.heap.size, 0, none⟩)) ∧ SrcAt w' B w.heap.size 0 bs ∧ Below w.heap.size w w' ∧ w.heap.size < w'.heap.size := by
  have hb := (Below.refl w.heap.size w).alloc (Nat.le_refl _)
  have hs : ∀ t, SrcAt (w.alloc (.cells #[cv, .int .i64 0, .int .u64 0] t)) B w.heap.size 0 bs ∨ t ≠ 96 := fun t => by
    by_cases ht : t = 96
    · subst ht
      exact .inl ⟨cv, 0, 0, heap_alloc_new w _, h.below ((hb _).mono hB), Nat.le_refl _, by omega, hB⟩
    · exact .inr ht
  obtain ⟨_, A, c, rfl, h2⟩ := h
  clear h2
  have Hs := Lib.hid hs; clear hs
  go_enter Tryd.func52, Tryd.ntmps52
  go_wp2_with fail
  go_ret
  exact ⟨rfl, (Hs.out _).resolve_right (by simp), hb _, by simp⟩

end Go.Proofs.YtepgfcjfdnakbaaDoor
/- The tests of the drawn laws' arguments: a2Long, a2At. -/
namespace Go.Proofs.YtepgfcjfdnakbaaDoor
open Go.RowKit Go.Joins

end Go.Proofs.YtepgfcjfdnakbaaDoor
/- Differences, part 4: NewtonValue, BinomialOf, the drawn coefficients. -/
namespace Go.Proofs.YtepgfcjfdnakbaaDoor
open Go.RowKit Go.Joins

/-- binomial coefficients as the program makes them -/
def bin (n : Nat) : Nat → Nat
  | 0 => 1
  | i + 1 => bin n i * (n - i) / (i + 1)
def binV (n k : Nat) : Nat := if n < k then 0 else bin n (min k (n - k))
theorem bin_bd : ∀ n, n < 61 → ∀ i, i < 31 → bin n i * (n - i) < 9223372036854775807 := by decide +kernel
theorem bin_bd2 : ∀ n, n < 61 → ∀ i, i < 31 → bin n i ≤ 118264581564861424 := by decide +kernel
theorem bin_pascal : ∀ n, n < 60 → ∀ k, k < 59 → binV (n + 1) (k + 1) = binV n (k + 1) + binV n k := by decide +kernel
theorem binV_bd {n k : Nat} (hn : n < 61) : binV n k ≤ 118264581564861424 := by
  unfold binV
  split
  · omega
  · exact bin_bd2 n hn _ (by omega)

theorem tab_snoc (i : Nat) (f : Nat → Int) (x : Int) : tab (i + 1) (fun k => if k < i then f k else x) = tab i f ++ [.int .i64 x] := by
  rw [tab_succ]
  simp only [Nat.lt_irrefl, if_false]
  congr 1
  exact tab_congr fun k hk => by simp [hk]
theorem Small.snoc {M i : Nat} {f : Nat → Int} {x : Int} (h : Small M i f) (hx : -(M : Int) ≤ x ∧ x ≤ M) : Small M (i + 1) (fun k => if k < i then f k else x) := by
  intro k hk
  by_cases h1 : k < i
  · simp only [h1, if_true]; exact h k h1
  · simp only [h1, if_false]; exact hx
/-- drawn coefficients -/
def RetC (g : Nat) (w : World) (e : Ending) (w' : World) : Prop :=
  ∃ v n f, e = .returned v ∧ 1 ≤ n ∧ n ≤ 5 ∧ Small 20 n f ∧ w'.ownsRow w.heap.size 2 1 v n (tab n f) ∧ Below g w w'
end Go.Proofs.YtepgfcjfdnakbaaDoor
/- Differences, part 5: polynomials of powers; BinomialOf. -/
namespace Go.Proofs.YtepgfcjfdnakbaaDoor
open Go.RowKit Go.Joins

/-- Horner's value, the last d coefficients of m -/
def hp (p : Nat → Int) (x m : Nat) : Nat → Int
  | 0 => 0
  | d + 1 => hp p x m d * (x : Int) + p (m - 1 - d)
theorem hp_bd {p : Nat → Int} {m x X : Nat} (hS : Small 20 m p) (hx : x ≤ X) : ∀ d, d ≤ m → -((20 * (X + 1) ^ d : Nat) : Int) ≤ hp p x m d ∧ hp p x m d ≤ ((20 * (X + 1) ^ d : Nat) : Int)
  | 0, _ => by simp [hp]
  | d + 1, hd => by
    have h1 := hp_bd hS hx d (by omega)
    have h2 := mul_bd h1 x X hx
    have h3 := hS (m - 1 - d) (by omega)
    have h4 : 1 ≤ (X + 1) ^ d := Nat.one_le_pow _ _ (by omega)
    have h5 : 20 * (X + 1) ^ (d + 1) = 20 * (X + 1) ^ d * X + 20 * (X + 1) ^ d := by rw [Nat.pow_succ, ← Nat.mul_assoc, Nat.mul_add, Nat.mul_one]
    show _ ≤ hp p x m d * (x : Int) + p (m - 1 - d) ∧ hp p x m d * (x : Int) + p (m - 1 - d) ≤ _
    rw [h5]
    omega
theorem hp_bd2 {p : Nat → Int} {m x X d : Nat} (hS : Small 20 m p) (hx : x ≤ X) (hX : X ≤ 8) (hm : m ≤ 5) (hd : d ≤ m) : -1180980 ≤ hp p x m d ∧ hp p x m d ≤ 1180980 := by
  have h1 := hp_bd hS hx d hd
  have h2 : 20 * (X + 1) ^ d ≤ 20 * 9 ^ 5 := Nat.mul_le_mul_left _ (Nat.le_trans (Nat.pow_le_pow_left (by omega) d) (Nat.pow_le_pow_right (by omega) (by omega)))
  omega
theorem vals_small {p : Nat → Int} {m : Nat} (hS : Small 20 m p) (hm : m ≤ 5) : Small 62500 m (fun x => hp p x m m) := by
  intro x hx
  have h1 := hp_bd (X := 4) hS (show x ≤ 4 by omega) m (Nat.le_refl _)
  have h2 : 20 * (4 + 1) ^ m ≤ 20 * 5 ^ 5 := Nat.mul_le_mul_left _ (Nat.pow_le_pow_right (by omega) (by omega))
  show _ ≤ hp p x m m ∧ hp p x m m ≤ _
  omega
theorem lead_small {p : Nat → Int} {m : Nat} (hS : Small 20 m p) (hm : m ≤ 5) : Small 1000000 m (fun j => Dn j (fun x => hp p x m m) 0) := by
  intro j hj
  have h1 := (vals_small hS hm).Dn j 0 (by omega)
  have h2 : 2 ^ j * 62500 ≤ 2 ^ 4 * 62500 := Nat.mul_le_mul_right _ (Nat.pow_le_pow_right (by omega) (by omega))
  show _ ≤ Dn j _ 0 ∧ Dn j _ 0 ≤ _
  omega

/-- a row of numbers of the call's own and the code 0 -/
def RetF0 (w : World) (n : Nat) (f : Nat → Int) (e : Ending) (w' : World) : Prop :=
  ∃ v, e = .returned (.tuple #[v, .int .i64 0]) ∧ w'.ownsRow w.heap.size 2 1 v n (tab n f) ∧ Below w.heap.size w w'

/-- Newton's formula for polynomials of up to five powers, up to 8 -/
theorem newton_pow (p : Nat → Int) (m x : Nat) (h1 : 1 ≤ m) (hm : m ≤ 5) (hx : x < 9) : nval (fun j => Dn j (fun i => hp p i m m) 0) x m = hp p x m m := by
  obtain rfl | rfl | rfl | rfl | rfl : m = 1 ∨ m = 2 ∨ m = 3 ∨ m = 4 ∨ m = 5 := by omega
  all_goals
    obtain rfl | rfl | rfl | rfl | rfl | rfl | rfl | rfl | rfl : x = 0 ∨ x = 1 ∨ x = 2 ∨ x = 3 ∨ x = 4 ∨ x = 5 ∨ x = 6 ∨ x = 7 ∨ x = 8 := by omega
    all_goals
      simp [nval, Dn, D, hp, chb]
      try omega
end Go.Proofs.YtepgfcjfdnakbaaDoor
/- Differences, part 7: WrongEntry, TabulateNewton; what a wrong entry leaves behind, in plain words. -/
namespace Go.Proofs.YtepgfcjfdnakbaaDoor
open Go.RowKit Go.Joins

abbrev one1 (a : Nat) : Nat → Int := put (fun _ => 0) a 1
theorem Dn_lin (f g : Nat → Int) (k : Int) : ∀ m, Dn m (fun x => f x + k * g x) = fun i => Dn m f i + k * Dn m g i
  | 0 => rfl
  | m + 1 => by
    show D (Dn m (fun x => f x + k * g x)) = _
    rw [Dn_lin f g k m]
    funext i
    show (Dn m f (i + 1) + k * Dn m g (i + 1)) - (Dn m f i + k * Dn m g i) = (Dn m f (i + 1) - Dn m f i) + k * (Dn m g (i + 1) - Dn m g i)
    rw [Int.mul_sub]; omega
theorem put_eq (f : Nat → Int) (a : Nat) (y : Int) : put f a y = fun x => f x + (y - f a) * one1 a x := by
  funext x
  show (if x = a then y else f x) = f x + (y - f a) * (if x = a then 1 else 0)
  by_cases h : x = a
  · subst h; simp; omega
  · simp [h]
theorem Dn_put (f : Nat → Int) (a : Nat) (y : Int) (m i : Nat) : Dn m (put f a y) i = Dn m f i + (y - f a) * Dn m (one1 a) i := by
  rw [put_eq, Dn_lin]
theorem chz : ∀ m, m < 6 → ∀ k, k < m → ∀ i, i < 14 → i + m < 14 → Dn m (fun x => (chb x k : Int)) i = 0 := by decide +kernel
theorem sone : ∀ m, m < 6 → ∀ L, L < 10 → 2 ≤ L → ∀ a, a < L + m → ∃ i, i < L ∧ Dn m (one1 a) i ≠ 0 := by decide +kernel
theorem Dn_nval (c : Nat → Int) (m : Nat) (hm : m < 6) (i : Nat) (hi : i + m < 14) : ∀ j, j ≤ m → Dn m (fun x => nval c x j) i = 0
  | 0, _ => by
    have : (fun x => nval c x 0) = fun x => (0 : Int) + 0 * (0 : Int) := by funext x; simp [nval]
    have h0 : ∀ m i, Dn m (fun _ => (0 : Int)) i = 0 := by
      intro m
      induction m with
      | zero => intro i; rfl
      | succ m ih => intro i; show Dn m _ (i + 1) - Dn m _ i = 0; rw [ih, ih]; rfl
    show Dn m (fun _ => (0 : Int)) i = 0
    exact h0 m i
  | j + 1, hj => by
    have e : (fun x => nval c x (j + 1)) = fun x => nval c x j + c j * (fun x => (chb x j : Int)) x := rfl
    rw [e, Dn_lin]
    show Dn m (fun x => nval c x j) i + c j * Dn m (fun x => (chb x j : Int)) i = 0
    rw [Dn_nval c m hm i hi j (by omega), chz m hm j (by omega) i (by omega) hi]; simp
/-- two places leave no proportional rows behind -/
def skew (m L a b : Nat) : Bool := (List.range L).any fun i => (List.range L).any fun j => Dn m (one1 a) i * Dn m (one1 b) j != Dn m (one1 a) j * Dn m (one1 b) i
def skewAll : Bool := (List.range 6).all fun m => (List.range 10).all fun L => (List.range (L + m)).all fun a => (List.range (L + m)).all fun b => decide (a = b) || decide (L < 2) || decide (m < 1) || skew m L a b
theorem skewAll_true : skewAll = true := by decide +kernel
theorem skew_all (m : Nat) (hm : m < 6) (h1 : 1 ≤ m) (L : Nat) (hL : L < 10) (h2 : 2 ≤ L) (a : Nat) (ha : a < L + m) (b : Nat) (hb : b < L + m) (hab : a ≠ b) : skew m L a b = true := by
  have h := List.all_eq_true.1 (List.all_eq_true.1 (List.all_eq_true.1 (List.all_eq_true.1 skewAll_true m (List.mem_range.2 hm)) L (List.mem_range.2 hL)) a (List.mem_range.2 ha)) b (List.mem_range.2 hb)
  rw [decide_eq_false hab, decide_eq_false (by omega : ¬ L < 2), decide_eq_false (by omega : ¬ m < 1)] at h
  simpa using h
theorem skew_at {m L a b : Nat} (h : skew m L a b = true) : ∃ i j, i < L ∧ j < L ∧ Dn m (one1 a) i * Dn m (one1 b) j ≠ Dn m (one1 a) j * Dn m (one1 b) i := by
  unfold skew at h
  obtain ⟨i, hi, h⟩ := List.any_eq_true.1 h
  obtain ⟨j, hj, h⟩ := List.any_eq_true.1 h
  exact ⟨i, j, List.mem_range.1 hi, List.mem_range.1 hj, by simpa using h⟩

theorem rep_ok (r s : Nat → Int) (v : Int) : ∀ n i due found, (∀ j, i ≤ j → j < i + n → r j = -v * s j) → (found = true → due = v) →
    (rep r s n i due found).2 = true ∧ ((found = true ∨ ∃ j, i ≤ j ∧ j < i + n ∧ s j ≠ 0) → (rep r s n i due found).1 = v)
  | 0, i, due, found, _, hf => ⟨rfl, fun h => by
      rcases h with h | ⟨j, h1, h2, _⟩
      · exact hf h
      · omega⟩
  | n + 1, i, due, found, h, hf => by
    have hi := h i (Nat.le_refl _) (by omega)
    have h' : ∀ j, i + 1 ≤ j → j < i + 1 + n → r j = -v * s j := fun j h1 h2 => h j (by omega) (by omega)
    rw [rep_succ]
    by_cases hs : s i = 0
    · have hr : r i = 0 := by rw [hi, hs, Int.mul_zero]
      rw [if_pos hs, if_pos hr]
      obtain ⟨k1, k2⟩ := rep_ok r s v n (i + 1) due found h' hf
      refine ⟨k1, fun hh => k2 ?_⟩
      rcases hh with hh | ⟨j, h1, h2, h3⟩
      · exact .inl hh
      · by_cases e : j = i
        · subst e; exact absurd hs h3
        · exact .inr ⟨j, by omega, by omega, h3⟩
    · have ht : (r i).tmod (s i) = 0 := by rw [hi]; exact Int.mul_tmod_left _ _
      have hd : (-(r i)).tdiv (s i) = v := by
        rw [hi, Int.neg_mul, Int.neg_neg]; exact Int.mul_tdiv_cancel _ hs
      rw [if_neg hs, if_pos ht, hd, if_neg (fun e => e.2 (hf e.1).symm)]
      obtain ⟨k1, k2⟩ := rep_ok r s v n (i + 1) v true h' (fun _ => rfl)
      exact ⟨k1, fun _ => k2 (.inl rfl)⟩
theorem rep_bad (r s : Nat → Int) : ∀ n i due found, (rep r s n i due found).2 = true → ∃ v, (found = true → v = due) ∧ ∀ j, i ≤ j → j < i + n → r j = -v * s j
  | 0, i, due, found, _ => ⟨due, fun _ => rfl, fun j h1 h2 => by omega⟩
  | n + 1, i, due, found, h => by
    rw [rep_succ] at h
    by_cases hs : s i = 0
    · rw [if_pos hs] at h
      by_cases hr : r i = 0
      · rw [if_pos hr] at h
        obtain ⟨v, h1, h2⟩ := rep_bad r s n (i + 1) due found h
        refine ⟨v, h1, fun j h3 h4 => ?_⟩
        by_cases e : j = i
        · subst e; rw [hr, hs, Int.mul_zero]
        · exact h2 j (by omega) (by omega)
      · rw [if_neg hr] at h; simp at h
    · rw [if_neg hs] at h
      by_cases ht : (r i).tmod (s i) = 0
      · rw [if_pos ht] at h
        by_cases hc : found = true ∧ (-(r i)).tdiv (s i) ≠ due
        · rw [if_pos hc] at h; simp at h
        · rw [if_neg hc] at h
          obtain ⟨v, h1, h2⟩ := rep_bad r s n (i + 1) _ true h
          have hv := h1 rfl
          refine ⟨v, fun hf => ?_, fun j h3 h4 => ?_⟩
          · rw [hv]
            exact Classical.byContradiction fun e => hc ⟨hf, e⟩
          · by_cases e : j = i
            · subst e
              have hm := Int.mul_tdiv_add_tmod (r j) (s j)
              rw [ht, Int.add_zero] at hm
              rw [hv, Int.neg_tdiv, Int.neg_neg, Int.mul_comm]
              exact hm.symm
            · exact h2 j (by omega) (by omega)
      · rw [if_neg ht] at h; simp at h

/-- what replacement finds for place a -/
def rp (f : Nat → Int) (d n a : Nat) : Int × Bool := rep (Dn (d + 1) (put f a 0)) (Dn (d + 1) (put (fun _ => 0) a 1)) (n - (d + 1)) 0 0 false

/-- one entry is wrong: all that the law asks -/
theorem wrong_one (f : Nat → Int) (d L a : Nat) (e : Int) (hd : d + 1 < 6) (hL : L < 10) (hL2 : 2 ≤ L) (ha : a < L + (d + 1)) (he : e ≠ 0) (hf : ∀ i, i < L → Dn (d + 1) f i = 0) :
    zer L (Dn (d + 1) f) = true ∧ zer L (Dn (d + 1) (put f a (f a + e))) = false ∧ (∀ b, b < a → (rp (put f a (f a + e)) d (L + (d + 1)) b).2 = false) ∧ rp (put f a (f a + e)) d (L + (d + 1)) a = (f a, true) := by
  have hg : ∀ i, i < L → Dn (d + 1) (put f a (f a + e)) i = e * Dn (d + 1) (one1 a) i := fun i hi => by
    rw [Dn_put, hf i hi, show f a + e - f a = e by omega, Int.zero_add]
  have hLm : L + (d + 1) - (d + 1) = L := by omega
  refine ⟨zer_all hf, ?_, fun b hb => ?_, ?_⟩
  · obtain ⟨i, hi, hs⟩ := sone (d + 1) hd L hL hL2 a ha
    exact zer_at i hi (by rw [hg i hi]; exact Int.mul_ne_zero he hs)
  · cases hr : (rp (put f a (f a + e)) d (L + (d + 1)) b).2 with
    | false => rfl
    | true =>
      unfold rp at hr
      rw [hLm] at hr
      obtain ⟨v, _, h2⟩ := rep_bad _ _ _ _ _ _ hr
      obtain ⟨i, j, hi, hj, hne⟩ := skew_at (skew_all (d + 1) hd (by omega) L hL hL2 a ha b (by omega) (by omega))
      have key : ∀ x, x < L → e * Dn (d + 1) (one1 a) x = (put f a (f a + e) b - v) * Dn (d + 1) (one1 b) x := fun x hx => by
        have h3 := h2 x (Nat.zero_le _) (by omega)
        rw [Dn_put, hg x hx] at h3
        have h4 : (0 - put f a (f a + e) b) * Dn (d + 1) (one1 b) x = -(put f a (f a + e) b * Dn (d + 1) (one1 b) x) := by rw [Int.zero_sub, Int.neg_mul]
        have h5 : -v * Dn (d + 1) (put (fun _ => 0) b 1) x = -(v * Dn (d + 1) (one1 b) x) := Int.neg_mul _ _
        rw [h4, h5] at h3
        rw [Int.sub_mul]
        omega
      have k1 := key i hi
      have k2 := key j hj
      exfalso
      apply hne
      refine Int.eq_of_mul_eq_mul_left he ?_
      rw [← Int.mul_assoc, ← Int.mul_assoc, k1, k2, Int.mul_assoc, Int.mul_assoc, Int.mul_comm (Dn (d + 1) (one1 b) i)]
  · unfold rp
    rw [hLm]
    have hr : ∀ j, 0 ≤ j → j < 0 + L → Dn (d + 1) (put (put f a (f a + e)) a 0) j = -(f a) * Dn (d + 1) (put (fun _ => 0) a 1) j := fun j _ hj => by
      rw [Dn_put, hg j (by omega)]
      have h0 : put f a (f a + e) a = f a + e := by simp [put]
      rw [h0, ← Int.add_mul]
      congr 1; omega
    obtain ⟨k1, k2⟩ := rep_ok _ _ (f a) L 0 0 false hr (by simp)
    obtain ⟨i, hi, hs⟩ := sone (d + 1) hd L hL hL2 a ha
    exact Prod.ext (k2 (.inr ⟨i, Nat.zero_le _, by omega, hs⟩)) k1
end Go.Proofs.YtepgfcjfdnakbaaDoor
/- Differences, part 8: Newton's differences, continued tables and shifts, in plain words. -/
namespace Go.Proofs.YtepgfcjfdnakbaaDoor
open Go.RowKit Go.Joins

theorem least (p : Nat → Bool) : ∀ n, p n = true → ∃ d, d ≤ n ∧ p d = true ∧ ∀ e, e < d → p e = false
  | 0, h => ⟨0, Nat.le_refl _, h, fun e he => by omega⟩
  | n + 1, h => by
    by_cases h2 : ∃ k, k ≤ n ∧ p k = true
    · obtain ⟨k, hk, h3⟩ := h2
      have : ∀ j, j ≤ n → p j = true → ∃ d, d ≤ n ∧ p d = true ∧ ∀ e, e < d → p e = false := by
        intro j
        induction j using Nat.strongRecOn with
        | ind j ih =>
          intro hj hp
          by_cases h4 : ∃ e, e < j ∧ p e = true
          · obtain ⟨e, he, hpe⟩ := h4
            exact ih e he (by omega) hpe
          · exact ⟨j, hj, hp, fun e he => by
              cases hpe : p e with
              | false => rfl
              | true => exact absurd ⟨e, he, hpe⟩ h4⟩
      obtain ⟨d, h5, h6, h7⟩ := this k hk h3
      exact ⟨d, by omega, h6, h7⟩
    · exact ⟨n + 1, Nat.le_refl _, h, fun e he => by
        cases hpe : p e with
        | false => rfl
        | true => exact absurd ⟨e, by omega, hpe⟩ h2⟩
theorem dn_table : ∀ k, k < 5 → ∀ j, j < 5 → Dn k (fun x => (chb x j : Int)) 0 = if j = k then 1 else 0 := by decide +kernel
theorem Dn_const (k i : Nat) : Dn k (fun _ => (0 : Int)) i = 0 := by
  induction k generalizing i with
  | zero => rfl
  | succ m ih => show Dn m _ (i + 1) - Dn m _ i = 0; rw [ih, ih]; rfl
theorem Dn_nval0 (c : Nat → Int) (k : Nat) (hk : k < 5) : ∀ j, j ≤ 5 → Dn k (fun x => nval c x j) 0 = if k < j then c k else 0
  | 0, _ => by
    show Dn k (fun _ => (0 : Int)) 0 = _
    rw [Dn_const]; simp
  | j + 1, hj => by
    have e : (fun x => nval c x (j + 1)) = fun x => nval c x j + c j * (fun x => (chb x j : Int)) x := rfl
    rw [e, Dn_lin]
    show Dn k (fun x => nval c x j) 0 + c j * Dn k (fun x => (chb x j : Int)) 0 = _
    rw [Dn_nval0 c k hk j (by omega), dn_table k hk j (by omega)]
    by_cases h1 : k < j
    · rw [if_pos h1, if_neg (by omega), if_pos (by omega)]; simp
    · by_cases h2 : j = k
      · subst h2; rw [if_neg h1, if_pos rfl, if_pos (by omega)]; simp
      · rw [if_neg h1, if_neg h2, if_neg (by omega)]; simp
theorem Dn_later (f : Nat → Int) (d L : Nat) (h : ∀ i, i < L → Dn d f i = 0) : ∀ t i, i + t < L → Dn (d + t) f i = 0
  | 0, i, hi => h i hi
  | t + 1, i, hi => by
    show Dn (d + t) f (i + 1) - Dn (d + t) f i = 0
    rw [Dn_later f d L h t (i + 1) (by omega), Dn_later f d L h t i (by omega)]; rfl
theorem zer_get {n : Nat} {f : Nat → Int} (h : zer n f = true) (i : Nat) (hi : i < n) : f i = 0 := by
  unfold zer at h
  have := List.all_eq_true.1 h i (List.mem_range.2 hi)
  simpa using this

def sg : Nat → Int
  | 0 => 1
  | j + 1 => -(sg j)
def exv (f : Nat → Int) (d n : Nat) : Nat → Int
  | 0 => 0
  | j + 1 => exv f d n j + sg j * (binV d (j + 1) : Int) * f (n - (j + 1))
theorem exv_eq (f : Nat → Int) (d i : Nat) (h1 : 1 ≤ d) (h5 : d ≤ 5) (h : Dn d f i = 0) : exv f d (i + d) d = f (i + d) := by
  obtain rfl | rfl | rfl | rfl | rfl : d = 1 ∨ d = 2 ∨ d = 3 ∨ d = 4 ∨ d = 5 := by omega
  all_goals
    simp [Dn, D, Nat.add_assoc] at h
    simp [exv, sg, binV, bin]
    omega
theorem sg_bd : ∀ j, -1 ≤ sg j ∧ sg j ≤ 1
  | 0 => by simp [sg]
  | j + 1 => by have := sg_bd j; show _ ≤ -(sg j) ∧ -(sg j) ≤ 1; omega

def shp (c : Nat → Int) (j : Nat) : Nat → Int := fun k => if k < j then c k + c (k + 1) else c k
theorem shp_put (c : Nat → Int) (j : Nat) : put (shp c j) j (c j + c (j + 1)) = shp c (j + 1) := by
  funext k
  show (if k = j then c j + c (j + 1) else if k < j then c k + c (k + 1) else c k) = if k < j + 1 then c k + c (k + 1) else c k
  by_cases h : k = j
  · subst h; simp
  · by_cases h2 : k < j
    · simp [h, h2, show k < j + 1 by omega]
    · simp [h, h2, show ¬ k < j + 1 by omega]
theorem Small.shp {M m : Nat} {c : Nat → Int} (h : Small M m c) (j : Nat) (hj : j < m) : Small (2 * M) m (shp c j) := by
  intro k hk
  have h1 := h k hk
  show _ ≤ (if k < j then c k + c (k + 1) else c k) ∧ (if k < j then c k + c (k + 1) else c k) ≤ _
  split
  · have h2 := h (k + 1) (by omega)
    omega
  · omega
def shn (m : Nat) (c : Nat → Int) : Nat → Nat → Int
  | 0 => c
  | t + 1 => Go.Proofs.YtepgfcjfdnakbaaDoor.shp (shn m c t) (m - 1)
theorem shn_small {m : Nat} {c : Nat → Int} (h : Small 20 m c) (hm : 1 ≤ m) : ∀ t, Small (20 * 2 ^ t) m (shn m c t)
  | 0 => by simpa [shn] using h
  | t + 1 => by
    have := (shn_small h hm t).shp (m - 1) (by omega)
    rw [Nat.pow_succ, show 20 * (2 ^ t * 2) = 2 * (20 * 2 ^ t) by omega]
    exact this
theorem pascal1 : ∀ k, k < 4 → ∀ t, t < 14 → chb (t + 1) (k + 1) = chb t (k + 1) + chb t k := by decide +kernel
theorem sh_nval (c : Nat → Int) (m t : Nat) (h1 : 1 ≤ m) (hm : m ≤ 5) (ht : t < 14) : nval (shp c (m - 1)) t m = nval c (t + 1) m := by
  have p0 := pascal1 0 (by omega) t ht
  have p1 := pascal1 1 (by omega) t ht
  have p2 := pascal1 2 (by omega) t ht
  have p3 := pascal1 3 (by omega) t ht
  have z0 : chb t 0 = 1 := rfl
  have z1 : chb (t + 1) 0 = 1 := rfl
  simp only [Nat.zero_add] at p0 p1 p2 p3
  obtain rfl | rfl | rfl | rfl | rfl : m = 1 ∨ m = 2 ∨ m = 3 ∨ m = 4 ∨ m = 5 := by omega
  all_goals
    simp only [nval, shp, p0, p1, p2, p3, z0, z1, Nat.reduceAdd, Nat.reduceSub, Nat.reduceLT, Nat.zero_add, if_true, if_false, Int.natCast_add, Int.mul_add, Int.add_mul, Int.natCast_one, Int.mul_one, Int.zero_add, Nat.lt_irrefl]
    try omega
theorem nval_0 (c : Nat → Int) (m : Nat) (h1 : 1 ≤ m) (hm : m ≤ 5) : nval c 0 m = c 0 := by
  obtain rfl | rfl | rfl | rfl | rfl : m = 1 ∨ m = 2 ∨ m = 3 ∨ m = 4 ∨ m = 5 := by omega
  all_goals simp [nval, chb]
theorem shn_nval (c : Nat → Int) (m : Nat) (h1 : 1 ≤ m) (hm : m ≤ 5) : ∀ t s, t + s ≤ 14 → nval (shn m c t) s m = nval c (t + s) m
  | 0, s, _ => by rw [Nat.zero_add]; rfl
  | t + 1, s, h => by
    show nval (shp (shn m c t) (m - 1)) s m = _
    rw [sh_nval _ m s h1 hm (by omega), shn_nval c m h1 hm t (s + 1) (by omega), show t + (s + 1) = t + 1 + s by omega]
theorem shn_0 (c : Nat → Int) (m t : Nat) (h1 : 1 ≤ m) (hm : m ≤ 5) (ht : t ≤ 14) : shn m c t 0 = nval c t m := by
  rw [← nval_0 (shn m c t) m h1 hm, shn_nval c m h1 hm t 0 (by omega), Nat.add_zero]
end Go.Proofs.YtepgfcjfdnakbaaDoor
/- Differences, part 9: the program's Newton values, tables, comparison of rows. -/
namespace Go.Proofs.YtepgfcjfdnakbaaDoor
open Go.RowKit Go.Joins

/-- the binomial coefficient one place before -/
def chq (x j : Nat) : Nat := chb x (j - 1)
theorem chb_1 (x : Nat) (i : Nat) : chb x (i + 1) = chb x i * (x - i) / (i + 1) := by
  show (if i < x then chb x i * (x - i) / (i + 1) else 0) = _
  split
  · rfl
  · rw [show x - i = 0 by omega, Nat.mul_zero, Nat.zero_div]
theorem chb_0 (x : Nat) : ∀ i, x < i → chb x i = 0
  | 0, h => by omega
  | i + 1, h => by rw [chb_1, show x - i = 0 by omega, Nat.mul_zero, Nat.zero_div]
/-- what the program reckons: the next coefficient -/
theorem chq_step (x i : Nat) : (chb x i : Int) * ((x : Int) - ((i + 1 : Nat) : Int) + 1) = ((chb x i * (x - i) : Nat) : Int) := by
  by_cases h : i ≤ x
  · rw [Int.natCast_mul]
    congr 1; omega
  · rw [chb_0 x i (by omega)]; simp

end Go.Proofs.YtepgfcjfdnakbaaDoor
/- Trains, part 2: divisors and lowest terms in the program and in the reference. -/
namespace Go.Proofs.YtepgfcjfdnakbaaDoor
open Go.RowKit Go.Joins

theorem gcd_step (a b : Nat) : Nat.gcd b (a % b) = Nat.gcd a b := by rw [Nat.gcd_comm, ← Nat.gcd_rec, Nat.gcd_comm]
/-- a fraction is handed back -/
def RetQ (N : Int) (D : Nat) (w : World) (e : Ending) (w' : World) : Prop := e = .returned (.agg #[.int .i64 N, .int .i64 (D : Int)]) ∧ Below w.heap.size w w'
end Go.Proofs.YtepgfcjfdnakbaaDoor
/- Finer tables, part 2: plain fractions and their sums. -/
namespace Go.Proofs.YtepgfcjfdnakbaaDoor
open Go.RowKit Go.Joins

/-- a plain fraction -/
def okQ (N D : Int) : Bool := inB N (-1000000000000) 1000000000000 && (inB D 1 1000000000000 && (Nat.gcd N.natAbs D.natAbs == 1))
/-- a fraction as a value -/
abbrev aggQ (N D : Int) : Value := .agg #[.int .i64 N, .int .i64 D]
theorem box2' {w : World} {x y : Value} {t : TypeId} : ∃ wb g, wb = w.alloc (.cells #[x, y] t) ∧ g = w.heap.size ∧ wb.cell? ⟨g, 0, none⟩ = some x ∧ wb.cell? ⟨g, 1, none⟩ = some y ∧ Below w.heap.size w wb := by
  have h := blk2 (heap_alloc_new w (.cells #[x, y] t))
  exact ⟨_, _, rfl, rfl, h.1, h.2.1, (Below.refl w.heap.size w).alloc (Nat.le_refl _) _⟩
end Go.Proofs.YtepgfcjfdnakbaaDoor
/- Jobs, part 1: how lists of jobs lie; valid lists in plain words. -/
namespace Go.Proofs.YtepgfcjfdnakbaaDoor
open Go.RowKit Go.Joins

structure Jb where
  nm : ByteArray
  days : Int
  cost : Int
  needs : List Int
deriving DecidableEq
def jb0 : Jb := ⟨⟨#[]⟩, 0, 0, []⟩
/-- the k-th job -/
def jg (xs : List Jb) (k : Nat) : Jb := xs.getD k jb0
theorem jg_at {xs : List Jb} {k : Nat} (h : k < xs.length) : jg xs k = xs[k] := by unfold jg; rw [List.getD_eq_getElem?_getD, List.getElem?_eq_getElem h]; rfl
def intV (l : List Int) : List Value := l.map (Value.int .i64)
theorem intV_at {l : List Int} {i : Nat} (h : i < l.length) : (intV l)[i]? = some (.int .i64 l[i]) := by unfold intV; rw [List.getElem?_map, List.getElem?_eq_getElem h]; rfl
def cellsJ (x : Jb × Value) : List Value := [.string x.1.nm, .int .i64 x.1.days, .int .i64 x.1.cost, x.2]
/-- THE READING OF A LIST OF JOBS -/
def RdJ (w : World) (B : Nat) (v : Value) (xs : List Jb) : Prop :=
  ∃ ys : List (Jb × Value), ys.map (·.1) = xs ∧ Rd w B v xs.length 4 (ys.flatMap cellsJ) ∧ ∀ y ∈ ys, Rd w B y.2 y.1.needs.length 1 (intV y.1.needs)
theorem RdJ.below {w w' : World} {B : Nat} {v : Value} {xs : List Jb} (h : RdJ w B v xs) (hb : Below B w w') : RdJ w' B v xs := by
  obtain ⟨ys, h1, h2, h3⟩ := h
  exact ⟨ys, h1, h2.below hb, fun y hy => (h3 y hy).below hb⟩
theorem RdJ.more {w : World} {B B' : Nat} {v : Value} {xs : List Jb} (h : RdJ w B v xs) (hB : B ≤ B') : RdJ w B' v xs := by
  obtain ⟨ys, h1, h2, h3⟩ := h
  exact ⟨ys, h1, h2.more hB, fun y hy => (h3 y hy).more hB⟩
theorem RdJ.next {w w' : World} {v : Value} {xs : List Jb} (h : RdJ w w.heap.size v xs) (hb : Below w.heap.size w w') : RdJ w' w'.heap.size v xs := (h.below hb).more hb.size
theorem RdJ.drewN {w : World} {B : Nat} {v : Value} {xs : List Jb} (h : RdJ w B v xs) (n : Nat) : RdJ (w.drewN n) B v xs := h
theorem RdJ.slice {w : World} {B : Nat} {v : Value} {xs : List Jb} (h : RdJ w B v xs) : ∃ A c, v = .slice A xs.length c := by
  obtain ⟨ys, h1, ⟨_, A, c, h2, _⟩, h3⟩ := h
  exact ⟨A, c, h2⟩
/-- the four cells of a job; its needs -/
structure JbAt (w : World) (B b o : Nat) (x : Jb) (A : Option Addr) (c : Nat) : Prop where
  lt : b < B
  c0 : w.cell? ⟨b, o, none⟩ = some (.string x.nm)
  c1 : w.cell? ⟨b, o + 1, none⟩ = some (.int .i64 x.days)
  c2 : w.cell? ⟨b, o + 2, none⟩ = some (.int .i64 x.cost)
  c3 : w.cell? ⟨b, o + 3, none⟩ = some (.slice A x.needs.length c)
  needs : Rd w B (.slice A x.needs.length c) x.needs.length 1 (intV x.needs)
theorem JbAt.below {w w' : World} {B b o c : Nat} {x : Jb} {A : Option Addr} (h : JbAt w B b o x A c) (hb : Below B w w') : JbAt w' B b o x A c :=
  ⟨h.lt, (hb.cell (p := ⟨b, o, none⟩) h.lt).trans h.c0, (hb.cell (p := ⟨b, o + 1, none⟩) h.lt).trans h.c1, (hb.cell (p := ⟨b, o + 2, none⟩) h.lt).trans h.c2, (hb.cell (p := ⟨b, o + 3, none⟩) h.lt).trans h.c3, h.needs.below hb⟩
theorem RdJ.at {w : World} {B n c : Nat} {A : Option Addr} {xs : List Jb} (h : RdJ w B (.slice A n c) xs) (k : Nat) (hk : k < xs.length) :
    ∃ b off A' c', A = some ⟨b, off, none⟩ ∧ JbAt w B b (off + k * 4) (jg xs k) A' c' := by
  rw [jg_at hk]
  obtain ⟨ys, h1, ⟨_, A0, c0, hv, hc⟩, h3⟩ := h
  subst h1
  injection hv with e1 e2 e3
  subst e1
  rw [List.length_map] at hk hc
  obtain ⟨b, off, hA, hb, hcc⟩ := hc (by omega)
  have hw := h3 ys[k] (List.getElem_mem hk)
  obtain ⟨_, A', c', hv', _⟩ := id hw
  have hx : (ys.map (·.1))[k]'(by simpa using hk) = ys[k].1 := by simp
  rw [hx]
  have hat : ∀ j u, j < 4 → (cellsJ ys[k])[j]? = some u → w.cell? ⟨b, off + k * 4 + j, none⟩ = some u := fun j u hj hu => by
    have := hcc (k * 4 + j) u ((flat_at cellsJ 4 (fun _ => rfl) ys k j hk hj).trans hu)
    rwa [← Nat.add_assoc] at this
  refine ⟨b, off, A', c', hA, ⟨hb, hat 0 _ (by omega) rfl, hat 1 _ (by omega) rfl, hat 2 _ (by omega) rfl, ?_, ?_⟩⟩
  · rw [← hv']; exact hat 3 _ (by omega) rfl
  · rw [← hv']; exact hw
/-- a row of numbers, cell by cell -/
theorem rdI_at {w : World} {B n c : Nat} {A : Option Addr} {l : List Int} (h : Rd w B (.slice A n c) n 1 (intV l)) (hn : l.length = n) (h0 : 0 < n) : ∃ b off, A = some ⟨b, off, none⟩ ∧ b < B ∧ ∀ i (hi : i < l.length), w.cell? ⟨b, off + i, none⟩ = some (.int .i64 l[i]) := by
  obtain ⟨_, A0, c0, hv, hc⟩ := h
  injection hv with e1 e2 e3
  subst e1
  obtain ⟨b, off, hA, hb, hcc⟩ := hc (by omega)
  exact ⟨b, off, hA, hb, fun i hi => hcc i _ (intV_at hi)⟩
theorem infoJ : (Tryd.prog.info? 62).map (fun i => (i.zero, i.size, i.bytes)) = some (some (.agg #[.string ⟨#[]⟩, .int .i64 0, .int .i64 0, .slice none 0 0]), 4, 56) := by kernel_rfl
/-! valid lists -/
/-- the needs rise, between 0 and k - 1 -/
def risB (l : List Int) (k : Nat) (i : Nat) : Bool := inB (l.getD i 0) 0 ((k : Int) - 1) && (decide (i = 0) || decide (l.getD (i - 1) 0 < l.getD i 0))
def needB (l : List Int) (k : Nat) : Bool := allN l.length (risB l k)
def newJ (xs : List Jb) (k : Nat) : Bool := allN k (fun i => !(decide ((jg xs i).nm = (jg xs k).nm)))
def jbB (xs : List Jb) (k : Nat) : Bool := isNm (jg xs k).nm.data.toList && (newJ xs k && (inB (jg xs k).days 1 60 && (inB (jg xs k).cost 0 1000000 && needB (jg xs k).needs k)))
def sumD (xs : List Jb) : Nat → Int
  | 0 => 0
  | k + 1 => sumD xs k + (jg xs k).days
def okJ (xs : List Jb) : Bool := decide (xs.length ≤ 30) && (allN xs.length (jbB xs) && decide (sumD xs xs.length ≤ 400))
theorem jbB_ok {xs : List Jb} {k : Nat} (h : jbB xs k = true) : isNm (jg xs k).nm.data.toList = true ∧ newJ xs k = true ∧ (1 ≤ (jg xs k).days ∧ (jg xs k).days ≤ 60) ∧ (0 ≤ (jg xs k).cost ∧ (jg xs k).cost ≤ 1000000) ∧ needB (jg xs k).needs k = true := by
  unfold jbB at h
  simp only [Bool.and_eq_true] at h
  exact ⟨h.1, h.2.1, inB_iff.1 h.2.2.1, inB_iff.1 h.2.2.2.1, h.2.2.2.2⟩
theorem getD_getI {l : List Int} {i : Nat} (h : i < l.length) : l.getD i 0 = l[i] := by rw [List.getD_eq_getElem?_getD, List.getElem?_eq_getElem h]; rfl
/-- what a valid list is -/
structure OkJ (xs : List Jb) : Prop where
  len : xs.length ≤ 30
  days : ∀ k, k < xs.length → 1 ≤ (jg xs k).days ∧ (jg xs k).days ≤ 60
  cost : ∀ k, k < xs.length → 0 ≤ (jg xs k).cost ∧ (jg xs k).cost ≤ 1000000
  need : ∀ k, k < xs.length → ∀ n ∈ (jg xs k).needs, 0 ≤ n ∧ n < (k : Int)
  sum : sumD xs xs.length ≤ 400
theorem okJ_ok {xs : List Jb} (h : okJ xs = true) : OkJ xs := by
  unfold okJ at h
  simp only [Bool.and_eq_true, decide_eq_true_eq] at h
  obtain ⟨h1, h2, h3⟩ := h
  refine ⟨h1, fun k hk => (jbB_ok (allN_get h2 hk)).2.2.1, fun k hk => (jbB_ok (allN_get h2 hk)).2.2.2.1, fun k hk n hn => ?_, h3⟩
  have h4 := (jbB_ok (allN_get h2 hk)).2.2.2.2
  obtain ⟨i, hi, rfl⟩ := List.mem_iff_getElem.1 hn
  have h5 := allN_get h4 hi
  unfold risB at h5
  rw [Bool.and_eq_true, getD_getI hi] at h5
  have := inB_iff.1 h5.1
  omega
theorem sumD_bd {xs : List Jb} (h : OkJ xs) : ∀ k, k ≤ xs.length → (k : Int) ≤ sumD xs k ∧ sumD xs k ≤ 60 * (k : Int)
  | 0, _ => by unfold sumD; omega
  | k + 1, hk => by
    have h1 := sumD_bd h k (by omega)
    have h2 := h.days k (by omega)
    show ((k + 1 : Nat) : Int) ≤ sumD xs k + (jg xs k).days ∧ sumD xs k + (jg xs k).days ≤ 60 * ((k + 1 : Nat) : Int)
    omega
end Go.Proofs.YtepgfcjfdnakbaaDoor
/- Inventories, part 1: pieces in plain words: totals, valid lists. -/
namespace Go.Proofs.YtepgfcjfdnakbaaDoor

/-! a table whose next value is made of the ones in front of it -/
def tabl {α : Type} (d : α) (st : (Nat → α) → Nat → α) : Nat → List α
  | 0 => []
  | k + 1 => tabl d st k ++ [st (fun i => (tabl d st k).getD i d) k]
def tv {α : Type} (d : α) (st : (Nat → α) → Nat → α) (k : Nat) : α := (tabl d st (k + 1)).getD k d
theorem tabl_len {α : Type} (d : α) (st : (Nat → α) → Nat → α) : ∀ n, (tabl d st n).length = n
  | 0 => rfl
  | n + 1 => by show (tabl d st n ++ [_]).length = n + 1; rw [List.length_append, tabl_len d st n]; rfl
theorem getD_left {α : Type} (l m : List α) (k : Nat) (d : α) (h : k < l.length) : (l ++ m).getD k d = l.getD k d := by
  rw [List.getD_eq_getElem?_getD, List.getD_eq_getElem?_getD, List.getElem?_append_left h]
theorem getD_last {α : Type} (l : List α) (x d : α) : (l ++ [x]).getD l.length d = x := by
  rw [List.getD_eq_getElem?_getD, List.getElem?_append_right (Nat.le_refl _), Nat.sub_self]; rfl
theorem getD_out {α : Type} (l : List α) (k : Nat) (d : α) (h : l.length ≤ k) : l.getD k d = d := by
  rw [List.getD_eq_getElem?_getD, List.getElem?_eq_none h]; rfl
theorem tabl_get {α : Type} (d : α) (st : (Nat → α) → Nat → α) {k : Nat} : ∀ n, k < n → (tabl d st n).getD k d = tv d st k
  | 0, h => by omega
  | n + 1, h => by
    by_cases e : k = n
    · subst e; rfl
    · have hl := tabl_len d st n
      show (tabl d st n ++ [_]).getD k d = _
      rw [getD_left _ _ _ _ (by omega)]
      exact tabl_get d st n (by omega)
theorem tv_eq {α : Type} (d : α) (st : (Nat → α) → Nat → α) (k : Nat) : tv d st k = st (fun i => if i < k then tv d st i else d) k := by
  have hl := tabl_len d st k
  have h : (fun i => (tabl d st k).getD i d) = fun i => if i < k then tv d st i else d := by
    funext i
    by_cases hi : i < k
    · rw [if_pos hi]; exact tabl_get d st k hi
    · rw [if_neg hi]; exact getD_out _ _ _ (by omega)
  have h2 : tv d st k = st (fun i => (tabl d st k).getD i d) k := by
    have := getD_last (tabl d st k) (st (fun i => (tabl d st k).getD i d) k) d
    rw [hl] at this
    exact this
  rw [h2, h]

structure Pc where
  name : ByteArray
  par : Int
  each : Int
  price : Int
deriving DecidableEq
def pc0 : Pc := ⟨⟨#[]⟩, 0, 0, 0⟩
/-- the k-th piece -/
def pg (xs : List Pc) (k : Nat) : Pc := xs.getD k pc0
theorem pg_at {xs : List Pc} {k : Nat} (h : k < xs.length) : pg xs k = xs[k] := by unfold pg; rw [List.getD_eq_getElem?_getD, List.getElem?_eq_getElem h]; rfl
/-- the total -/
def totS (xs : List Pc) (T : Nat → Nat) (k : Nat) : Nat := (pg xs k).each.toNat * (if (pg xs k).par < 0 then 1 else T (pg xs k).par.toNat)
def tot (xs : List Pc) : Nat → Nat := tv 1 (totS xs)
/-- the parent of piece k lies in front of it -/
def parB (xs : List Pc) (k : Nat) : Bool := if k = 0 then decide ((pg xs 0).par = -1) else inB (pg xs k).par 0 ((k : Int) - 1)
/-- no earlier piece has the name -/
def newB (xs : List Pc) (k : Nat) : Bool := allN k (fun i => !(decide ((pg xs i).name = (pg xs k).name)))
def pcB (xs : List Pc) (k : Nat) : Bool := isNm (pg xs k).name.data.toList && (newB xs k && (inB (pg xs k).each 1 100 && (inB (pg xs k).price 0 1000000 && parB xs k)))
def totB (xs : List Pc) (k : Nat) : Bool := decide (tot xs k ≤ 1000000)
def okP (xs : List Pc) : Bool := inB (xs.length : Int) 1 40 && (allN xs.length (pcB xs) && allN xs.length (totB xs))
/-- the shape of the first n pieces -/
structure Shp (xs : List Pc) (n : Nat) : Prop where
  par0 : 0 < n → (pg xs 0).par = -1
  par : ∀ k, 0 < k → k < n → 0 ≤ (pg xs k).par ∧ (pg xs k).par < k
  each : ∀ k, k < n → 1 ≤ (pg xs k).each ∧ (pg xs k).each ≤ 100
theorem Shp.less {xs : List Pc} {n m : Nat} (h : Shp xs n) (hm : m ≤ n) : Shp xs m := ⟨fun h0 => h.par0 (by omega), fun k h0 hk => h.par k h0 (by omega), fun k hk => h.each k (by omega)⟩
theorem pcB_ok {xs : List Pc} {k : Nat} (h : pcB xs k = true) : isNm (pg xs k).name.data.toList = true ∧ newB xs k = true ∧ (1 ≤ (pg xs k).each ∧ (pg xs k).each ≤ 100) ∧ (0 ≤ (pg xs k).price ∧ (pg xs k).price ≤ 1000000) ∧ parB xs k = true := by
  unfold pcB at h
  simp only [Bool.and_eq_true] at h
  exact ⟨h.1, h.2.1, inB_iff.1 h.2.2.1, inB_iff.1 h.2.2.2.1, h.2.2.2.2⟩
theorem shp_of {xs : List Pc} {n : Nat} (h : allN n (pcB xs) = true) : Shp xs n := by
  refine ⟨fun h0 => ?_, fun k h0 hk => ?_, fun k hk => (pcB_ok (allN_get h hk)).2.2.1⟩
  · have := (pcB_ok (allN_get h h0)).2.2.2.2
    unfold parB at this
    rw [if_pos rfl] at this
    exact of_decide_eq_true this
  · have := (pcB_ok (allN_get h hk)).2.2.2.2
    unfold parB at this
    rw [if_neg (by omega)] at this
    have := inB_iff.1 this
    omega
theorem tot_zero {xs : List Pc} {n : Nat} (h : Shp xs n) (hn : 0 < n) : tot xs 0 = (pg xs 0).each.toNat := by
  unfold tot
  rw [tv_eq]
  show (pg xs 0).each.toNat * (if (pg xs 0).par < 0 then 1 else _) = _
  rw [h.par0 hn, if_pos (by omega), Nat.mul_one]
theorem tot_step {xs : List Pc} {n k : Nat} (h : Shp xs n) (h0 : 0 < k) (hk : k < n) : tot xs k = (pg xs k).each.toNat * tot xs (pg xs k).par.toNat := by
  have hp := h.par k h0 hk
  unfold tot
  rw [tv_eq]
  show (pg xs k).each.toNat * (if (pg xs k).par < 0 then 1 else (if (pg xs k).par.toNat < k then tv 1 (totS xs) (pg xs k).par.toNat else 1)) = _
  rw [if_neg (by omega), if_pos (by omega)]
theorem tot_pos {xs : List Pc} {n : Nat} (h : Shp xs n) : ∀ k, k < n → 1 ≤ tot xs k := by
  intro k
  induction k using Nat.strongRecOn with
  | ind k ih =>
    intro hk
    have he := h.each k hk
    by_cases h0 : k = 0
    · subst h0; rw [tot_zero h hk]; omega
    · have hp := h.par k (by omega) hk
      rw [tot_step h (by omega) hk]
      exact Nat.mul_pos (by omega) (ih _ (by omega) (by omega))
/-- the total at a place of a path: 1 behind its end -/
def upT (xs : List Pc) (c : Int) : Nat := if c < 0 then 1 else tot xs c.toNat
theorem upT_step {xs : List Pc} {n k : Nat} (h : Shp xs n) (hk : k < n) : tot xs k = (pg xs k).each.toNat * upT xs (pg xs k).par := by
  by_cases h0 : k = 0
  · subst h0
    rw [tot_zero h hk]
    unfold upT
    rw [h.par0 hk, if_pos (by omega), Nat.mul_one]
  · have hp := h.par k (by omega) hk
    rw [tot_step h (by omega) hk]
    unfold upT
    rw [if_neg (by omega)]
theorem upT_pos {xs : List Pc} {n : Nat} (h : Shp xs n) {c : Int} (hc : c < n) : 1 ≤ upT xs c := by
  unfold upT
  split
  · exact Nat.le_refl _
  · exact tot_pos h _ (by omega)
theorem okP_ok {xs : List Pc} (h : okP xs = true) : (1 ≤ xs.length ∧ xs.length ≤ 40) ∧ allN xs.length (pcB xs) = true ∧ Shp xs xs.length ∧ ∀ k, k < xs.length → tot xs k ≤ 1000000 := by
  unfold okP at h
  simp only [Bool.and_eq_true] at h
  have h1 := inB_iff.1 h.1
  exact ⟨by omega, h.2.1, shp_of h.2.1, fun k hk => of_decide_eq_true (allN_get h.2.2 hk)⟩
end Go.Proofs.YtepgfcjfdnakbaaDoor
/- Inventories, part 2: how pieces lie; the total of a piece, both sides. -/
namespace Go.Proofs.YtepgfcjfdnakbaaDoor
open Go.RowKit Go.Joins

def cellsP (x : Pc) : List Value := [.string x.name, .int .i64 x.par, .int .i64 x.each, .int .i64 x.price]
abbrev aggP (x : Pc) : Value := .agg #[.string x.name, .int .i64 x.par, .int .i64 x.each, .int .i64 x.price]
def RdP (w : World) (B : Nat) (v : Value) (xs : List Pc) : Prop := Rd w B v xs.length 4 (xs.flatMap cellsP)
theorem RdP.below {w w' : World} {B : Nat} {v : Value} {xs : List Pc} (h : RdP w B v xs) (hb : Below B w w') : RdP w' B v xs := Rd.below h hb
theorem RdP.slice {w : World} {B : Nat} {v : Value} {xs : List Pc} (h : RdP w B v xs) : ∃ A c, v = .slice A xs.length c := by
  obtain ⟨_, A, c, h2, _⟩ := h
  exact ⟨A, c, h2⟩
/-- the four cells of a piece -/
structure PcAt (w : World) (B b o : Nat) (x : Pc) : Prop where
  lt : b < B
  c0 : w.cell? ⟨b, o, none⟩ = some (.string x.name)
  c1 : w.cell? ⟨b, o + 1, none⟩ = some (.int .i64 x.par)
  c2 : w.cell? ⟨b, o + 2, none⟩ = some (.int .i64 x.each)
  c3 : w.cell? ⟨b, o + 3, none⟩ = some (.int .i64 x.price)
theorem PcAt.below {w w' : World} {B b o : Nat} {x : Pc} (h : PcAt w B b o x) (hb : Below B w w') : PcAt w' B b o x :=
  ⟨h.lt, (hb.cell (p := ⟨b, o, none⟩) h.lt).trans h.c0, (hb.cell (p := ⟨b, o + 1, none⟩) h.lt).trans h.c1, (hb.cell (p := ⟨b, o + 2, none⟩) h.lt).trans h.c2, (hb.cell (p := ⟨b, o + 3, none⟩) h.lt).trans h.c3⟩
theorem RdP.at {w : World} {B n c : Nat} {A : Option Addr} {xs : List Pc} (h : RdP w B (.slice A n c) xs) (k : Nat) (hk : k < xs.length) :
    ∃ b off, A = some ⟨b, off, none⟩ ∧ PcAt w B b (off + k * 4) (pg xs k) := by
  obtain ⟨_, A0, c0, hv, hc⟩ := h
  injection hv with e1 e2 e3
  subst e1
  obtain ⟨b, off, hA, hb, hcc⟩ := hc (by omega)
  have hat : ∀ j u, j < 4 → (cellsP xs[k])[j]? = some u → w.cell? ⟨b, off + k * 4 + j, none⟩ = some u := fun j u hj hu => by
    have := hcc (k * 4 + j) u ((flat_at cellsP 4 (fun _ => rfl) xs k j hk hj).trans hu)
    rwa [← Nat.add_assoc] at this
  rw [pg_at hk]
  exact ⟨b, off, hA, ⟨hb, hat 0 _ (by omega) rfl, hat 1 _ (by omega) rfl, hat 2 _ (by omega) rfl, hat 3 _ (by omega) rfl⟩⟩
theorem infoP : (Tryd.prog.info? 46).map (fun i => (i.zero, i.size, i.bytes)) = some (some (.agg #[.string ⟨#[]⟩, .int .i64 0, .int .i64 0, .int .i64 0]), 4, 40) := by kernel_rfl

/-- a total, or a number that is too great as well -/
def RetTo (t : Nat) (w : World) (e : Ending) (w' : World) : Prop := ∃ r : Nat, e = .returned (.int .i64 (r : Int)) ∧ (t ≤ 1000000 → r = t) ∧ (1000000 < t → 1000000 < r) ∧ r ≤ 1000000000001 ∧ w = w'
set_option maxRecDepth 100000 in
set_option maxHeartbeats 1600000 in
theorem total_any (B : Nat) (v : Value) (xs : List Pc) (M k : Nat) (w : World) (h : RdP w B v xs) (hs : Shp xs M) (hM : M ≤ xs.length) (hk : k < M) (hn : xs.length ≤ 1048576) :
    Calls Tryd.prog 54 #[v, .int .i64 (k : Int)] w (RetTo (tot xs k) w) := by
  have H := Lib.hid h
  have HS := Lib.hid hs
  obtain ⟨A, c, rfl⟩ := h.slice
  have Hk := Lib.hid (show 1 * upT xs (k : Int) = tot xs k from by unfold upT; rw [if_neg (by omega), Int.toNat_natCast, Nat.one_mul])
  clear h hs
  go_enter Tryd.func54, Tryd.ntmps54
  go_wp2_with fail
  go_loop [1, 5] (fun x y => ∃ (c : Int) (m : Nat), -1 ≤ c ∧ c < (M : Int) ∧ 1 ≤ m ∧ m ≤ 100000000 ∧ m * upT xs c = tot xs k ∧ x = .int .i64 c ∧ y = .int .i64 (m : Int)) (fun x _ => (intOf x + 1).toNat)
  case atStart => exact ⟨k, 1, by omega, by omega, by omega, by omega, Hk.out, rfl, rfl⟩
  case round =>
    obtain ⟨c', m, hc1, hc2, hm1, hm2, hT, rfl, rfl⟩ := hrel
    by_cases h0 : c' < 0
    · have hr : m = tot xs k := by rw [← hT]; unfold upT; rw [if_pos h0, Nat.mul_one]
      have Hr := Lib.hid hr
      have h0' : ¬ (0 ≤ c') := by omega
      clear hr hT
      go_wp2_with fail
      go_ret
      exact ⟨m, rfl, fun _ => Hr.out, fun h => by rw [Hr.out]; exact h, by omega, rfl⟩
    · have h0' : 0 ≤ c' := by omega
      obtain ⟨j, rfl⟩ : ∃ j : Nat, c' = (j : Int) := ⟨c'.toNat, by omega⟩
      have hju : upT xs (j : Int) = tot xs j := by unfold upT; rw [if_neg (by omega), Int.toNat_natCast]
      by_cases hb : 1000000 < m
      · have hp := tot_pos HS.out j (by omega)
        have hr : 1000000 < tot xs k := by
          rw [← hT, hju]
          exact Nat.lt_of_lt_of_le hb (Nat.le_mul_of_pos_right _ hp)
        have Hr := Lib.hid hr
        have hb' : ¬ ((m : Int) ≤ 1000000) := by omega
        clear hr hT hju hp
        go_wp2_with fail
        go_ret
        exact ⟨m, rfl, fun h => by have := Hr.out; omega, fun _ => hb, by omega, rfl⟩
      · have hb' : (m : Int) ≤ 1000000 := by omega
        obtain ⟨b, off, hA, hat⟩ := H.out.at j (by omega)
        subst hA
        have q1 := hat.c1
        have q2 := hat.c2
        have he := HS.out.each j (by omega)
        have hst := upT_step HS.out (k := j) (by omega)
        have hp : -1 ≤ (pg xs j).par ∧ (pg xs j).par < (j : Int) := by
          by_cases e : j = 0
          · subst e
            have := HS.out.par0 (by omega)
            omega
          · have := HS.out.par j (by omega) (by omega)
            omega
        have hm3 : m * (pg xs j).each.toNat ≤ 1000000 * 100 := Nat.mul_le_mul (by omega) (by omega)
        have hmI : (m : Int) * (pg xs j).each = ((m * (pg xs j).each.toNat : Nat) : Int) := by rw [Int.natCast_mul]; congr 1; omega
        have hmp : 1 ≤ m * (pg xs j).each.toNat := Nat.mul_pos (by omega) (by omega)
        have HT := Lib.hid (show m * (pg xs j).each.toNat * upT xs (pg xs j).par = tot xs k by rw [Nat.mul_assoc, ← hst, ← hju]; exact hT)
        have hmw : IntKind.i64.wrap ((m : Int) * (pg xs j).each) = ((m * (pg xs j).each.toNat : Nat) : Int) := by rw [hmI]; exact IntWalk.i64_in _ (by omega)
        have hjl : (j : Int) < (xs.length : Int) := by omega
        clear hat hst hT hju hmI h0
        generalize m * (pg xs j).each.toNat = m2 at *
        generalize (pg xs j).par = p at *
        generalize (pg xs j).each = e at *
        go_wp2_with fail
        go_round
        case rel => exact ⟨p, m2, hp.1, by omega, hmp, by omega, HT.out, rfl, rfl⟩
        case measure => simp [intOf]; omega
set_option maxRecDepth 100000 in
set_option maxHeartbeats 1600000 in
theorem l21Total_any (B : Nat) (v : Value) (xs : List Pc) (M k : Nat) (w : World) (h : RdP w B v xs) (hs : Shp xs M) (hM : M ≤ xs.length) (hk : k < M) (hn : xs.length ≤ 1048576) :
    Calls Tryd.prog 56 #[v, .int .i64 (k : Int)] w (RetTo (tot xs k) w) := by
  have H := Lib.hid h
  have HS := Lib.hid hs
  obtain ⟨A, c, rfl⟩ := h.slice
  have Hk := Lib.hid (show 1 * upT xs (k : Int) = tot xs k from by unfold upT; rw [if_neg (by omega), Int.toNat_natCast, Nat.one_mul])
  clear h hs
  go_enter Tryd.func56, Tryd.ntmps56
  go_wp2_with fail
  go_loop [1, 5] (fun x y => ∃ (c : Int) (m : Nat), -1 ≤ c ∧ c < (M : Int) ∧ 1 ≤ m ∧ ((m ≤ 1000000000000 ∧ m * upT xs c = tot xs k) ∨ (m = 1000000000001 ∧ 1000000000000 < tot xs k)) ∧ x = .int .i64 c ∧ y = .int .i64 (m : Int)) (fun x _ => (intOf x + 1).toNat)
  case atStart => exact ⟨k, 1, by omega, by omega, by omega, .inl ⟨by omega, Hk.out⟩, rfl, rfl⟩
  case round =>
    obtain ⟨c', m, hc1, hc2, hm1, hT, rfl, rfl⟩ := hrel
    have hm2 : m ≤ 1000000000001 := by omega
    by_cases h0 : c' < 0
    · have hr : (m ≤ 1000000000000 ∧ m = tot xs k) ∨ (m = 1000000000001 ∧ 1000000000000 < tot xs k) := by
        rcases hT with ⟨h1, h2⟩ | h2
        · refine .inl ⟨h1, ?_⟩
          rw [← h2]; unfold upT; rw [if_pos h0, Nat.mul_one]
        · exact .inr h2
      have Hr := Lib.hid hr
      have h0' : ¬ (0 ≤ c') := by omega
      clear hr hT
      go_wp2_with fail
      go_ret
      exact ⟨m, rfl, fun h => by have := Hr.out; omega, fun h => by have := Hr.out; omega, hm2, rfl⟩
    · have h0' : 0 ≤ c' := by omega
      obtain ⟨j, rfl⟩ : ∃ j : Nat, c' = (j : Int) := ⟨c'.toNat, by omega⟩
      have hju : upT xs (j : Int) = tot xs j := by unfold upT; rw [if_neg (by omega), Int.toNat_natCast]
      obtain ⟨b, off, hA, hat⟩ := H.out.at j (by omega)
      subst hA
      have q1 := hat.c1
      have q2 := hat.c2
      have he := HS.out.each j (by omega)
      have hst := upT_step HS.out (k := j) (by omega)
      have hp : -1 ≤ (pg xs j).par ∧ (pg xs j).par < (j : Int) := by
        by_cases e : j = 0
        · subst e
          have := HS.out.par0 (by omega)
          omega
        · have := HS.out.par j (by omega) (by omega)
          omega
      have hup := upT_pos HS.out (c := (pg xs j).par) (by omega)
      have hm3 : m * (pg xs j).each.toNat ≤ 1000000000001 * 100 := Nat.mul_le_mul (by omega) (by omega)
      have hmI : (m : Int) * (pg xs j).each = ((m * (pg xs j).each.toNat : Nat) : Int) := by rw [Int.natCast_mul]; congr 1; omega
      have hmp : m ≤ m * (pg xs j).each.toNat := Nat.le_mul_of_pos_right _ (by omega)
      have hT1 : m * upT xs (j : Int) = tot xs k → m * (pg xs j).each.toNat * upT xs (pg xs j).par = tot xs k := fun hT => by rw [Nat.mul_assoc, ← hst, ← hju]; exact hT
      have hmw : IntKind.i64.wrap ((m : Int) * (pg xs j).each) = ((m * (pg xs j).each.toNat : Nat) : Int) := by rw [hmI]; exact IntWalk.i64_in _ (by omega)
      have hT2 : ∀ m3, m3 * upT xs (pg xs j).par = tot xs k → m3 ≤ tot xs k := fun m3 h3 => by rw [← h3]; exact Nat.le_mul_of_pos_right _ hup
      have hjl : (j : Int) < (xs.length : Int) := by omega
      obtain ⟨m2, hm2e⟩ : ∃ m2, m * (pg xs j).each.toNat = m2 := ⟨_, rfl⟩
      rw [hm2e] at hm3 hmp hmw
      have HT := Lib.hid (show (min 1000000000001 m2 ≤ 1000000000000 ∧ min 1000000000001 m2 * upT xs (pg xs j).par = tot xs k) ∨ (min 1000000000001 m2 = 1000000000001 ∧ 1000000000000 < tot xs k) from by
        rcases hT with ⟨h1, h2⟩ | h2
        · have h3 := hT1 h2
          rw [hm2e] at h3
          by_cases hle : m2 ≤ 1000000000000
          · rw [Nat.min_eq_right (by omega)]
            exact .inl ⟨hle, h3⟩
          · rw [Nat.min_eq_left (by omega)]
            have := hT2 m2 h3
            exact .inr ⟨rfl, by omega⟩
        · rw [Nat.min_eq_left (by omega)]
          exact .inr ⟨rfl, h2.2⟩)
      have hmin : min (1000000000001 : Int) (m2 : Int) = ((min 1000000000001 m2 : Nat) : Int) := by omega
      have HMn := Lib.hid (fun wx => l00Min_c 1000000000001 (m2 : Int) wx)
      rw [hmin] at HMn
      have hm4 : 1 ≤ min 1000000000001 m2 := by omega
      clear hat hst hT hT1 hT2 hju hmI h0 hmin hm2e hup
      generalize min 1000000000001 m2 = m4 at *
      generalize (pg xs j).par = p at *
      generalize (pg xs j).each = e at *
      go_wp2_with fail
      refine (HMn.out _).mono ?_; rintro e w1 ⟨rfl, rfl⟩
      go_wp2_with fail
      go_round
      case rel => exact ⟨p, m4, hp.1, by omega, hm4, HT.out, rfl, rfl⟩
      case measure => simp [intOf]; omega
end Go.Proofs.YtepgfcjfdnakbaaDoor
/- Inventories, part 3: valid lists, both sides. -/
namespace Go.Proofs.YtepgfcjfdnakbaaDoor
open Go.RowKit Go.Joins

/-- the names of the first k pieces -/
def nmsP (xs : List Pc) (k : Nat) : List ByteArray := (List.range k).map fun i => (pg xs i).name
theorem nmsP_succ (xs : List Pc) (k : Nat) : nmsP xs (k + 1) = nmsP xs k ++ [(pg xs k).name] := by simp [nmsP, List.range_succ]
theorem nmsP_len (xs : List Pc) (k : Nat) : (nmsP xs k).length = k := by simp [nmsP]
theorem nmsP_has (xs : List Pc) (k : Nat) : hasNm (nmsP xs k) (pg xs k).name = !(newB xs k) := by
  unfold hasNm nmsP newB allN
  rw [List.any_map, List.all_eq_not_any_not, Bool.not_not]
  congr 1
  funext i
  simp
/-- names that are not too long -/
def szP (xs : List Pc) : Prop := ∀ k, k < xs.length → (pg xs k).name.size ≤ 1048576
theorem okP_pc {xs : List Pc} {k : Nat} (hk : k < xs.length) (h : pcB xs k = false) : okP xs = false := by
  unfold okP
  rw [allN_bad k hk h, Bool.false_and, Bool.and_false]
theorem okP_tot {xs : List Pc} {k : Nat} (hk : k < xs.length) (h : totB xs k = false) : okP xs = false := by
  unfold okP
  rw [allN_bad k hk h, Bool.and_false, Bool.and_false]
theorem okP_len {xs : List Pc} (h : inB (xs.length : Int) 1 40 = false) : okP xs = false := by unfold okP; rw [h]; rfl
theorem okP_yes {xs : List Pc} (h : inB (xs.length : Int) 1 40 = true) (h1 : allN xs.length (pcB xs) = true) (h2 : allN xs.length (totB xs) = true) : okP xs = true := by unfold okP; rw [h, h1, h2]; rfl
theorem pc_nm {xs : List Pc} {k : Nat} (h : isNm (pg xs k).name.data.toList = false) : pcB xs k = false := by unfold pcB; rw [h]; rfl
theorem pc_new {xs : List Pc} {k : Nat} (h : newB xs k = false) : pcB xs k = false := by unfold pcB; rw [h, Bool.false_and, Bool.and_false]
theorem pc_each {xs : List Pc} {k : Nat} (h : inB (pg xs k).each 1 100 = false) : pcB xs k = false := by unfold pcB; rw [h]; simp
theorem pc_price {xs : List Pc} {k : Nat} (h : inB (pg xs k).price 0 1000000 = false) : pcB xs k = false := by unfold pcB; rw [h]; simp
theorem pc_par {xs : List Pc} {k : Nat} (h : parB xs k = false) : pcB xs k = false := by unfold pcB; rw [h]; simp
theorem pc_yes {xs : List Pc} {k : Nat} (h1 : isNm (pg xs k).name.data.toList = true) (h2 : newB xs k = true) (h3 : inB (pg xs k).each 1 100 = true) (h4 : inB (pg xs k).price 0 1000000 = true) (h5 : parB xs k = true) : pcB xs k = true := by unfold pcB; rw [h1, h2, h3, h4, h5]; rfl
theorem cells4 {w : World} {g : Nat} {a b c d : Value} {t : TypeId} (h : w.heap[g]? = some (.cells #[a, b, c, d] t (0, 0))) : w.cell? ⟨g, 0, none⟩ = some a ∧ w.cell? ⟨g, 1, none⟩ = some b ∧ w.cell? ⟨g, 2, none⟩ = some c ∧ w.cell? ⟨g, 3, none⟩ = some d :=
  ⟨by rw [cell_of_row w g 0 _ _ _ h]; rfl, by rw [cell_of_row w g 1 _ _ _ h]; rfl, by rw [cell_of_row w g 2 _ _ _ h]; rfl, by rw [cell_of_row w g 3 _ _ _ h]; rfl⟩
set_option maxRecDepth 100000 in
set_option maxHeartbeats 6400000 in
theorem ValidPI_any (B : Nat) (v : Value) (xs : List Pc) (w : World) (h : RdP w B v xs) (hB : B ≤ w.heap.size) (hn : xs.length ≤ 100000) (hz : szP xs) :
    Calls Tryd.prog 26 #[v] w fun e w' => e = .returned (.bool (okP xs)) ∧ Below w.heap.size w w' := by
  have H := Lib.hid h
  obtain ⟨A, c, rfl⟩ := h.slice
  clear h
  have HZ := Lib.hid hz
  have HL := Lib.hid (fun wx => between_any (xs.length : Int) 1 40 wx)
  have hmm := @run_makeMap Tryd.prog
  have hb0 := Lib.hid (Below.refl w.heap.size w)
  have HbM := Lib.hid ((Below.refl w.heap.size w).alloc (Nat.le_refl _) (.map #[] 0))
  have HmM := Lib.hid (NmMap.made w)
  clear hz
  cases hl : inB (xs.length : Int) 1 40 with
  | false =>
    have Hr := Lib.hid (okP_len hl)
    rw [hl] at HL
    clear hl
    go_enter Tryd.func26, Tryd.ntmps26
    go_wp2_with fail
    refine (HL.out _).mono ?_; rintro e w1 ⟨rfl, rfl⟩
    go_wp2_with fail
    go_ret
    exact ⟨ret_bool Hr.out.symm, hb0.out⟩
  | true =>
    rw [hl] at HL
    have hl40 := inB_iff.1 hl
    go_enter Tryd.func26, Tryd.ntmps26
    go_wp2_with fail
    refine (HL.out _).mono ?_; rintro e w1 ⟨rfl, rfl⟩
    go_wp2_with fail
    go_loopw [14] (fun i wr => ∃ k : Nat, k ≤ xs.length ∧ i = .int .i64 (k : Int) ∧ allN k (pcB xs) = true ∧ NmMap wr w.heap.size (nmsP xs k) ∧ Below w.heap.size w wr) (fun i _ => xs.length - (intOf i).toNat)
    case atStart => exact ⟨0, Nat.zero_le _, rfl, rfl, HmM.out, HbM.out⟩
    case round =>
      obtain ⟨k, hk, rfl, hall, hm, hbl⟩ := hrel
      have Hall := Lib.hid hall
      have Hm := Lib.hid hm
      have Hbl := Lib.hid hbl
      clear hall hm hbl HmM HbM hb0
      by_cases hlt : k < xs.length
      · obtain ⟨gb, ob, hA, hat⟩ := (H.out.below (Hbl.out.mono hB)).at k hlt
        subst hA
        have hlt' : (k : Int) < (xs.length : Int) := by omega
        have p0 := hat.c0
        have p1 := hat.c1
        have p2 := hat.c2
        have p3 := hat.c3
        have hsz := HZ.out k hlt
        have HE1 := Lib.hid (fun h => okP_pc hlt (pc_nm h))
        have HE2 := Lib.hid (fun h => okP_pc hlt (pc_new h))
        have HE3 := Lib.hid (fun h => okP_pc hlt (pc_each h))
        have HE4 := Lib.hid (fun h => okP_pc hlt (pc_price h))
        have HE5 := Lib.hid (fun h => okP_pc hlt (pc_par h))
        have HY := Lib.hid (fun h1 h2 h3 h4 h5 => allN_step Hall.out (pc_yes (xs := xs) (k := k) h1 h2 h3 h4 h5))
        have Hhas := Lib.hid (nmsP_has xs k)
        have Hsu := Lib.hid (nmsP_succ xs k)
        have Hpar := Lib.hid (show parB xs k = if k = 0 then decide ((pg xs k).par = -1) else inB (pg xs k).par 0 ((k : Int) - 1) by unfold parB; by_cases e : k = 0 <;> simp [e])
        generalize newB xs k = nb at *
        generalize (pg xs k).name = nm at *
        generalize (pg xs k).par = pa at *
        generalize (pg xs k).each = ea at *
        generalize (pg xs k).price = pr at *
        have hba := (Below.refl wr.heap.size wr).alloc (Nat.le_refl _) (.cells #[.string nm, .int .i64 pa, .int .i64 ea, .int .i64 pr] 46)
        have Hba := Lib.hid (Hbl.out.trans (hba.mono Hbl.out.size))
        have HCa := Lib.hid (heap_alloc_new wr (.cells #[.string nm, .int .i64 pa, .int .i64 ea, .int .i64 pr] 46))
        have HMa := Lib.hid (Hm.out.below hba)
        have hgaw : w.heap.size < wr.heap.size := Hm.out.lt
        have HN := Lib.hid (fun wx => IsNameI_any nm wx hsz)
        have HX1 := Lib.hid (fun wx => between_any ea 1 100 wx)
        have HX2 := Lib.hid (fun wx => between_any pr 0 1000000 wx)
        have HX3 := Lib.hid (fun wx => between_any pa 0 ((k : Int) - 1) wx)
        have hkw : IntKind.i64.wrap ((k : Int) - 1) = (k : Int) - 1 := IntWalk.i64_in _ (by omega)
        clear hba hat Hm
        go_upto_region 7 with (fail)
        generalize wr.alloc (.cells #[.string nm, .int .i64 pa, .int .i64 ea, .int .i64 pr] 46) = wa at *
        generalize wr.heap.size = ga at *
        clear p0 p1 p2 p3
        obtain ⟨y0, y1, y2, y3⟩ := cells4 HCa.out
        have hlook := HMa.out.look nm (by simp [maxLen]; omega)
        rw [Hhas.out] at hlook
        cases h1 : isNm nm.data.toList with
        | false =>
          have Hr := Lib.hid (HE1.out h1)
          rw [h1] at HN
          clear h1
          go_wp2_with fail
          refine (HN.out _).mono ?_; rintro e w1 ⟨rfl, rfl⟩
          go_wp2_with fail
          go_ret
          exact ⟨ret_bool Hr.out.symm, Hba.out⟩
        | true =>
          rw [h1] at HN
          cases nb with
          | false =>
            have Hr := Lib.hid (HE2.out rfl)
            go_wp2_with fail
            refine (HN.out _).mono ?_; rintro e w1 ⟨rfl, rfl⟩
            go_wp2_with fail
            go_ret
            exact ⟨ret_bool Hr.out.symm, Hba.out⟩
          | true =>
            cases h3 : inB ea 1 100 with
            | false =>
              have Hr := Lib.hid (HE3.out h3)
              rw [h3] at HX1
              clear h3
              go_wp2_with fail
              refine (HN.out _).mono ?_; rintro e w1 ⟨rfl, rfl⟩
              go_wp2_with fail
              refine (HX1.out _).mono ?_; rintro e w1 ⟨rfl, rfl⟩
              go_wp2_with fail
              go_ret
              exact ⟨ret_bool Hr.out.symm, Hba.out⟩
            | true =>
              rw [h3] at HX1
              cases h4 : inB pr 0 1000000 with
              | false =>
                have Hr := Lib.hid (HE4.out h4)
                rw [h4] at HX2
                clear h4
                go_wp2_with fail
                refine (HN.out _).mono ?_; rintro e w1 ⟨rfl, rfl⟩
                go_wp2_with fail
                refine (HX1.out _).mono ?_; rintro e w1 ⟨rfl, rfl⟩
                go_wp2_with fail
                refine (HX2.out _).mono ?_; rintro e w1 ⟨rfl, rfl⟩
                go_wp2_with fail
                go_ret
                exact ⟨ret_bool Hr.out.symm, Hba.out⟩
              | true =>
                rw [h4] at HX2
                obtain ⟨w1, hupd, hm1, hgrow1⟩ := HMa.out.upd nm (by simp [maxLen]; omega) (by rw [nmsP_len]; simp [maxLen]; omega)
                have Hm1 := Lib.hid hm1
                have hres := (hgrow1.block ga ((Array.getElem?_eq_some_iff.1 HCa.out).1) (fun e => by injection e with e; omega)).trans HCa.out
                obtain ⟨x0, x1, x2, x3⟩ := cells4 hres
                have Hb1 := Lib.hid (Hba.out.grown hgrow1 Hba.out.size (fun j hj => by cases hj; exact Nat.le_refl _))
                clear hm1 hgrow1 hres
                by_cases hk0 : k = 0
                · subst hk0
                  by_cases hpa : pa = -1
                  · have h5 : parB xs 0 = true := by rw [Hpar.out, if_pos rfl]; exact decide_eq_true hpa
                    have HYn := Lib.hid (HY.out h1 rfl h3 h4 h5)
                    have hpb : (pa == -1) = true := by simp [hpa]
                    clear h1 h3 h4 h5
                    go_wp2_with fail
                    refine (HN.out _).mono ?_; rintro e w1 ⟨rfl, rfl⟩
                    go_wp2_with fail
                    refine (HX1.out _).mono ?_; rintro e w1 ⟨rfl, rfl⟩
                    go_wp2_with fail
                    refine (HX2.out _).mono ?_; rintro e w1 ⟨rfl, rfl⟩
                    go_wp2_with fail
                    go_roundw
                    case rel => exact ⟨0 + 1, by omega, by go_num, HYn.out, by rw [Hsu.out]; exact Hm1.out, Hb1.out⟩
                    case measure => first | (simp [intOf]; done) | (simp [intOf]; omega)
                  · have h5 : parB xs 0 = false := by rw [Hpar.out, if_pos rfl]; exact decide_eq_false hpa
                    have Hr := Lib.hid (HE5.out h5)
                    have hpb : (pa == -1) = false := by simp [hpa]
                    clear h1 h3 h4 h5
                    go_wp2_with fail
                    refine (HN.out _).mono ?_; rintro e w1 ⟨rfl, rfl⟩
                    go_wp2_with fail
                    refine (HX1.out _).mono ?_; rintro e w1 ⟨rfl, rfl⟩
                    go_wp2_with fail
                    refine (HX2.out _).mono ?_; rintro e w1 ⟨rfl, rfl⟩
                    go_wp2_with fail
                    go_ret
                    exact ⟨ret_bool Hr.out.symm, Hb1.out⟩
                · have hkb : ((k : Int) == 0) = false := by simp [hk0]
                  have hkp : (0 : Int) < (k : Int) := by omega
                  cases h5 : inB pa 0 ((k : Int) - 1) with
                  | false =>
                    have h6 : parB xs k = false := by rw [Hpar.out, if_neg hk0]; exact h5
                    have Hr := Lib.hid (HE5.out h6)
                    rw [h5] at HX3
                    clear h1 h3 h4 h5 h6
                    go_wp2_with fail
                    refine (HN.out _).mono ?_; rintro e w1 ⟨rfl, rfl⟩
                    go_wp2_with fail
                    refine (HX1.out _).mono ?_; rintro e w1 ⟨rfl, rfl⟩
                    go_wp2_with fail
                    refine (HX2.out _).mono ?_; rintro e w1 ⟨rfl, rfl⟩
                    go_wp2_with fail
                    refine (HX3.out _).mono ?_; rintro e w1 ⟨rfl, rfl⟩
                    go_wp2_with fail
                    go_ret
                    exact ⟨ret_bool Hr.out.symm, Hb1.out⟩
                  | true =>
                    have h6 : parB xs k = true := by rw [Hpar.out, if_neg hk0]; exact h5
                    have HYn := Lib.hid (HY.out h1 rfl h3 h4 h6)
                    rw [h5] at HX3
                    clear h1 h3 h4 h5 h6
                    go_wp2_with fail
                    refine (HN.out _).mono ?_; rintro e w1 ⟨rfl, rfl⟩
                    go_wp2_with fail
                    refine (HX1.out _).mono ?_; rintro e w1 ⟨rfl, rfl⟩
                    go_wp2_with fail
                    refine (HX2.out _).mono ?_; rintro e w1 ⟨rfl, rfl⟩
                    go_wp2_with fail
                    refine (HX3.out _).mono ?_; rintro e w1 ⟨rfl, rfl⟩
                    go_wp2_with fail
                    go_roundw
                    case rel => exact ⟨k + 1, by omega, by go_num, HYn.out, by rw [Hsu.out]; exact Hm1.out, Hb1.out⟩
                    case measure => first | (simp [intOf]; done) | (simp [intOf]; omega)
      · obtain rfl : k = xs.length := by omega
        have hlt' : ¬ ((xs.length : Int) < (xs.length : Int)) := by omega
        have HSh := Lib.hid (shp_of Hall.out)
        have Hl1 := Lib.hid hl
        rename World => w0
        go_wp2_with fail
        go_loopw [66] (fun i wr => ∃ k : Nat, k ≤ xs.length ∧ i = .int .i64 (k : Int) ∧ allN k (totB xs) = true ∧ Below w.heap.size w wr) (fun i _ => xs.length - (intOf i).toNat)
        case atStart => exact ⟨0, Nat.zero_le _, rfl, rfl, Hbl.out⟩
        case round =>
          obtain ⟨k, hk, rfl, hat, hbl2⟩ := hrel
          have Hat := Lib.hid hat
          have Hbl2 := Lib.hid hbl2
          clear hat hbl2
          by_cases hlt : k < xs.length
          · have hlt' : (k : Int) < (xs.length : Int) := by omega
            have HT := Lib.hid (total_any B _ xs xs.length k _ (H.out.below (Hbl2.out.mono hB)) HSh.out (Nat.le_refl _) hlt (by omega))
            unfold RetTo at HT
            go_wp2_with fail
            refine HT.out.mono ?_; rintro e wn ⟨r, rfl, hr1, hr2, hr3, rfl⟩
            by_cases ht : tot xs k ≤ 1000000
            · have hre := hr1 ht
              have hrb : ¬ ((1000000 : Int) < (r : Int)) := by omega
              have HYn := Lib.hid (allN_step Hat.out (show totB xs k = true from decide_eq_true ht))
              clear hr1 hr2 hr3 hre ht
              go_wp2_with fail
              go_roundw
              case rel => exact ⟨k + 1, by omega, by go_num, HYn.out, Hbl2.out⟩
              case measure => first | (simp [intOf]; done) | (simp [intOf]; omega)
            · have hrb : (1000000 : Int) < (r : Int) := by have := hr2 (by omega); omega
              have Hr := Lib.hid (okP_tot hlt (show totB xs k = false from decide_eq_false ht))
              clear hr1 hr2 hr3 ht
              go_wp2_with fail
              go_ret
              exact ⟨ret_bool Hr.out.symm, Hbl2.out⟩
          · obtain rfl : k = xs.length := by omega
            have hlt' : ¬ ((xs.length : Int) < (xs.length : Int)) := by omega
            have Hr := Lib.hid (okP_yes Hl1.out Hall.out Hat.out)
            go_wp2_with fail
            go_ret
            exact ⟨ret_bool Hr.out.symm, Hbl2.out⟩
end Go.Proofs.YtepgfcjfdnakbaaDoor
/- Inventories, part 4: valid lists in the reference; codes. -/
namespace Go.Proofs.YtepgfcjfdnakbaaDoor
open Go.RowKit Go.Joins

theorem ba_beqP {x y : ByteArray} : (x.toList == y.toList) = decide (x = y) := by
  by_cases h : x = y
  · subst h; simp
  · rw [decide_eq_false h, beq_eq_false_iff_ne]
    exact fun e => h (ba_inj e)
theorem shp_ext {xs : List Pc} {k : Nat} (h : Shp xs k) (he : inB (pg xs k).each 1 100 = true) (hp : parB xs k = true) : Shp xs (k + 1) := by
  have he' := inB_iff.1 he
  refine ⟨fun _ => ?_, fun j h0 hj => ?_, fun j hj => ?_⟩
  · by_cases h0 : k = 0
    · subst h0
      unfold parB at hp
      rw [if_pos rfl] at hp
      exact of_decide_eq_true hp
    · exact h.par0 (by omega)
  · by_cases e : j = k
    · subst e
      unfold parB at hp
      rw [if_neg (by omega)] at hp
      have := inB_iff.1 hp
      omega
    · exact h.par j h0 (by omega)
  · by_cases e : j = k
    · subst e; exact he'
    · exact h.each j (by omega)
set_option maxRecDepth 100000 in
set_option maxHeartbeats 6400000 in
theorem ValidPS_any (B : Nat) (v : Value) (xs : List Pc) (w : World) (h : RdP w B v xs) (hB : B ≤ w.heap.size) (hn : xs.length ≤ 100000) (hz : szP xs) :
    Calls Tryd.prog 73 #[v] w fun e w' => e = .returned (.bool (okP xs)) ∧ Below w.heap.size w w' := by
  have H := Lib.hid h
  obtain ⟨A, c, rfl⟩ := h.slice
  clear h
  have HZ := Lib.hid hz
  have HL := Lib.hid (fun wx => l00In_any (xs.length : Int) 1 40 wx)
  have hb0 := Lib.hid (Below.refl w.heap.size w)
  clear hz
  cases hl : inB (xs.length : Int) 1 40 with
  | false =>
    have Hr := Lib.hid (okP_len hl)
    rw [hl] at HL
    clear hl
    go_enter Tryd.func73, Tryd.ntmps73
    go_wp2_with fail
    refine (HL.out _).mono ?_; rintro e w1 ⟨rfl, rfl⟩
    go_wp2_with fail
    go_ret
    exact ⟨ret_bool Hr.out.symm, hb0.out⟩
  | true =>
    rw [hl] at HL
    have hl40 := inB_iff.1 hl
    go_enter Tryd.func73, Tryd.ntmps73
    go_wp2_with fail
    refine (HL.out _).mono ?_; rintro e w1 ⟨rfl, rfl⟩
    go_wp2_with fail
    go_loopw [3] (fun i wr => ∃ k : Nat, k ≤ xs.length ∧ i = .int .i64 (k : Int) ∧ allN k (pcB xs) = true ∧ allN k (totB xs) = true ∧ Below w.heap.size w wr) (fun i _ => xs.length - (intOf i).toNat)
    case atStart => exact ⟨0, Nat.zero_le _, rfl, rfl, rfl, hb0.out⟩
    case round =>
      obtain ⟨k, hk, rfl, hall, hallt, hbl⟩ := hrel
      have Hall := Lib.hid hall
      have Hallt := Lib.hid hallt
      have Hbl := Lib.hid hbl
      clear hall hallt hbl hb0
      by_cases hlt : k < xs.length
      · obtain ⟨gb, ob, hA, hat⟩ := (H.out.below (Hbl.out.mono hB)).at k hlt
        subst hA
        have hlt' : (k : Int) < (xs.length : Int) := by omega
        have p0 := hat.c0
        have p1 := hat.c1
        have p2 := hat.c2
        have p3 := hat.c3
        have hsz := HZ.out k hlt
        have HE1 := Lib.hid (fun h => okP_pc hlt (pc_nm h))
        have HE3 := Lib.hid (fun h => okP_pc hlt (pc_each h))
        have HE4 := Lib.hid (fun h => okP_pc hlt (pc_price h))
        have HE5 := Lib.hid (fun h => okP_pc hlt (pc_par h))
        have Hpar := Lib.hid (show parB xs k = if k = 0 then decide ((pg xs k).par = -1) else inB (pg xs k).par 0 ((k : Int) - 1) by unfold parB; by_cases e : k = 0 <;> simp [e])
        obtain ⟨nm, hnm⟩ : ∃ z, (pg xs k).name = z := ⟨_, rfl⟩
        obtain ⟨pa, hpa0⟩ : ∃ z, (pg xs k).par = z := ⟨_, rfl⟩
        obtain ⟨ea, hea⟩ : ∃ z, (pg xs k).each = z := ⟨_, rfl⟩
        obtain ⟨pr, hpr⟩ : ∃ z, (pg xs k).price = z := ⟨_, rfl⟩
        rw [hnm] at p0 hsz HE1
        rw [hpa0] at p1 Hpar
        rw [hea] at p2 HE3
        rw [hpr] at p3 HE4
        have HN := Lib.hid (fun wx => IsNameS_any nm wx hsz)
        have HX1 := Lib.hid (fun wx => l00In_any ea 1 100 wx)
        have HX2 := Lib.hid (fun wx => l00In_any pr 0 1000000 wx)
        have HX3 := Lib.hid (fun wx => l00In_any pa 0 ((k : Int) - 1) wx)
        have hkw : IntKind.i64.wrap ((k : Int) - 1) = (k : Int) - 1 := IntWalk.i64_in _ (by omega)
        clear hat
        cases h1 : isNm nm.data.toList with
        | false =>
          have Hr := Lib.hid (HE1.out h1)
          rw [h1] at HN
          clear h1
          go_wp2_with fail
          refine (HN.out _).mono ?_; rintro e w1 ⟨rfl, rfl⟩
          go_wp2_with fail
          go_ret
          exact ⟨ret_bool Hr.out.symm, Hbl.out⟩
        | true =>
          rw [h1] at HN
          cases h3 : inB ea 1 100 with
          | false =>
            have Hr := Lib.hid (HE3.out h3)
            rw [h3] at HX1
            clear h3
            go_wp2_with fail
            refine (HN.out _).mono ?_; rintro e w1 ⟨rfl, rfl⟩
            go_wp2_with fail
            refine (HX1.out _).mono ?_; rintro e w1 ⟨rfl, rfl⟩
            go_wp2_with fail
            go_ret
            exact ⟨ret_bool Hr.out.symm, Hbl.out⟩
          | true =>
            rw [h3] at HX1
            cases h4 : inB pr 0 1000000 with
            | false =>
              have Hr := Lib.hid (HE4.out h4)
              rw [h4] at HX2
              clear h4
              go_wp2_with fail
              refine (HN.out _).mono ?_; rintro e w1 ⟨rfl, rfl⟩
              go_wp2_with fail
              refine (HX1.out _).mono ?_; rintro e w1 ⟨rfl, rfl⟩
              go_wp2_with fail
              refine (HX2.out _).mono ?_; rintro e w1 ⟨rfl, rfl⟩
              go_wp2_with fail
              go_ret
              exact ⟨ret_bool Hr.out.symm, Hbl.out⟩
            | true =>
              rw [h4] at HX2
              by_cases hk0 : k = 0
              · subst hk0
                rw [Nat.zero_mul, Nat.add_zero] at p0 p1 p2 p3
                by_cases hpa : pa = -1
                · have h5 : parB xs 0 = true := by rw [Hpar.out, if_pos rfl]; exact decide_eq_true hpa
                  have hpb : (pa == -1) = true := by simp [hpa]
                  obtain ⟨wo, rfl⟩ : ∃ z, z = wr := ⟨_, rfl⟩
                  have HT := Lib.hid (l21Total_any B _ xs (0 + 1) 0 wo (H.out.below (Hbl.out.mono hB)) (shp_ext (shp_of Hall.out) (by rw [hea]; exact h3) h5) hlt (Nat.lt_succ_self _) (by omega))
                  unfold RetTo at HT
                  go_wp2_with fail
                  refine (HN.out _).mono ?_; rintro e w1 ⟨rfl, rfl⟩
                  go_wp2_with fail
                  refine (HX1.out _).mono ?_; rintro e w1 ⟨rfl, rfl⟩
                  go_wp2_with fail
                  refine (HX2.out _).mono ?_; rintro e w1 ⟨rfl, rfl⟩
                  go_wp2_with fail
                  refine HT.out.mono ?_; rintro e wn ⟨r, rfl, hr1, hr2, hr3, rfl⟩
                  by_cases ht : tot xs 0 ≤ 1000000
                  · have hre := hr1 ht
                    have hrb : ¬ ((1000000 : Int) < (r : Int)) := by omega
                    have HYt := Lib.hid (allN_step Hallt.out (show totB xs 0 = true from decide_eq_true ht))
                    have HYp := Lib.hid (fun hnb => allN_step Hall.out (pc_yes (xs := xs) (k := 0) (by rw [hnm]; exact h1) hnb (by rw [hea]; exact h3) (by rw [hpr]; exact h4) h5))
                    clear hr1 hr2 hr3 hre ht
                    go_wp2_with fail
                    go_loopw [5] (fun i wr => ∃ (i' d : Nat), i' ≤ 0 ∧ i = .int .i64 (i' : Int) ∧ allN i' (fun i => !(decide ((pg xs i).name = (pg xs 0).name))) = true ∧ wr = wo.drewN d) (fun i _ => 0 - (intOf i).toNat)
                    case atStart => exact ⟨0, 0, Nat.zero_le _, rfl, rfl, rfl⟩
                    case round =>
                      obtain ⟨i', d, hi, rfl, hai, hwx⟩ := hrel
                      have Hai := Lib.hid hai
                      have hbx : Below wo.heap.size wo wr := by rw [hwx]; exact below_drewN (Below.refl _ _) d
                      have Hwx := Lib.hid hwx
                      have Hbx := Lib.hid (Hbl.out.trans (hbx.mono Hbl.out.size))
                      clear hai hwx
                      by_cases hlti : i' < 0
                      · omega
                      · obtain rfl : 0 = i' := by omega
                        have hlti' : ¬ ((((0 : Nat) : Int) : Int) < (((0 : Nat) : Int) : Int)) := by omega
                        have HYn := Lib.hid (HYp.out Hai.out)
                        go_wp2_with fail
                        go_roundw
                        case rel => exact ⟨0 + 1, by omega, by go_num, HYn.out, HYt.out, Hbx.out⟩
                        case measure => first | (simp [intOf]; done) | (simp [intOf]; omega)
                  · have hrb : (1000000 : Int) < (r : Int) := by have := hr2 (by omega); omega
                    have Hr := Lib.hid (okP_tot hlt (show totB xs 0 = false from decide_eq_false ht))
                    clear hr1 hr2 hr3 ht
                    go_wp2_with fail
                    go_ret
                    exact ⟨ret_bool Hr.out.symm, Hbl.out⟩
                · have h5 : parB xs 0 = false := by rw [Hpar.out, if_pos rfl]; exact decide_eq_false hpa
                  have Hr := Lib.hid (HE5.out h5)
                  have hpb : (pa == -1) = false := by simp [hpa]
                  clear h1 h3 h4 h5
                  go_wp2_with fail
                  refine (HN.out _).mono ?_; rintro e w1 ⟨rfl, rfl⟩
                  go_wp2_with fail
                  refine (HX1.out _).mono ?_; rintro e w1 ⟨rfl, rfl⟩
                  go_wp2_with fail
                  refine (HX2.out _).mono ?_; rintro e w1 ⟨rfl, rfl⟩
                  go_wp2_with fail
                  go_ret
                  exact ⟨ret_bool Hr.out.symm, Hbl.out⟩
              · have hkb : ((k : Int) == 0) = false := by simp [hk0]
                have hkp : (0 : Int) < (k : Int) := by omega
                cases h6 : inB pa 0 ((k : Int) - 1) with
                | false =>
                  have h5 : parB xs k = false := by rw [Hpar.out, if_neg hk0]; exact h6
                  have Hr := Lib.hid (HE5.out h5)
                  rw [h6] at HX3
                  clear h1 h3 h4 h5 h6
                  go_wp2_with fail
                  refine (HN.out _).mono ?_; rintro e w1 ⟨rfl, rfl⟩
                  go_wp2_with fail
                  refine (HX1.out _).mono ?_; rintro e w1 ⟨rfl, rfl⟩
                  go_wp2_with fail
                  refine (HX2.out _).mono ?_; rintro e w1 ⟨rfl, rfl⟩
                  go_wp2_with fail
                  refine (HX3.out _).mono ?_; rintro e w1 ⟨rfl, rfl⟩
                  go_wp2_with fail
                  go_ret
                  exact ⟨ret_bool Hr.out.symm, Hbl.out⟩
                | true =>
                  have h5 : parB xs k = true := by rw [Hpar.out, if_neg hk0]; exact h6
                  rw [h6] at HX3
                  clear h6
                  obtain ⟨wo, rfl⟩ : ∃ z, z = wr := ⟨_, rfl⟩
                  have HT := Lib.hid (l21Total_any B _ xs (k + 1) k wo (H.out.below (Hbl.out.mono hB)) (shp_ext (shp_of Hall.out) (by rw [hea]; exact h3) h5) hlt (Nat.lt_succ_self _) (by omega))
                  unfold RetTo at HT
                  go_wp2_with fail
                  refine (HN.out _).mono ?_; rintro e w1 ⟨rfl, rfl⟩
                  go_wp2_with fail
                  refine (HX1.out _).mono ?_; rintro e w1 ⟨rfl, rfl⟩
                  go_wp2_with fail
                  refine (HX2.out _).mono ?_; rintro e w1 ⟨rfl, rfl⟩
                  go_wp2_with fail
                  refine (HX3.out _).mono ?_; rintro e w1 ⟨rfl, rfl⟩
                  go_wp2_with fail
                  refine HT.out.mono ?_; rintro e wn ⟨r, rfl, hr1, hr2, hr3, rfl⟩
                  by_cases ht : tot xs k ≤ 1000000
                  · have hre := hr1 ht
                    have hrb : ¬ ((1000000 : Int) < (r : Int)) := by omega
                    have HYt := Lib.hid (allN_step Hallt.out (show totB xs k = true from decide_eq_true ht))
                    have HYp := Lib.hid (fun hnb => allN_step Hall.out (pc_yes (xs := xs) (k := k) (by rw [hnm]; exact h1) hnb (by rw [hea]; exact h3) (by rw [hpr]; exact h4) h5))
                    clear hr1 hr2 hr3 hre ht
                    go_wp2_with fail
                    go_loopw [5] (fun i wr => ∃ (i' d : Nat), i' ≤ k ∧ i = .int .i64 (i' : Int) ∧ allN i' (fun i => !(decide ((pg xs i).name = (pg xs k).name))) = true ∧ wr = wo.drewN d) (fun i _ => k - (intOf i).toNat)
                    case atStart => exact ⟨0, 0, Nat.zero_le _, rfl, rfl, rfl⟩
                    case round =>
                      obtain ⟨i', d, hi, rfl, hai, hwx⟩ := hrel
                      have Hai := Lib.hid hai
                      have hbx : Below wo.heap.size wo wr := by rw [hwx]; exact below_drewN (Below.refl _ _) d
                      have Hwx := Lib.hid hwx
                      have Hbx := Lib.hid (Hbl.out.trans (hbx.mono Hbl.out.size))
                      clear hai hwx
                      by_cases hlti : i' < k
                      · have hlti' : (i' : Int) < (k : Int) := by omega
                        obtain ⟨gb', ob', hA', hat'⟩ := (H.out.below (Hbx.out.mono hB)).at i' (by omega)
                        obtain ⟨gb'', ob'', hA'', hat''⟩ := (H.out.below (Hbx.out.mono hB)).at k hlt
                        obtain ⟨rfl, rfl⟩ : gb = gb' ∧ ob = ob' := by simpa using hA'
                        obtain ⟨rfl, rfl⟩ : gb = gb'' ∧ ob = ob'' := by simpa using hA''
                        have y0 := hat'.c0
                        have y1 := hat''.c0
                        have hq := ba_beqP (x := (pg xs i').name) (y := (pg xs k).name)
                        have HBd := Lib.hid (fun h => okP_pc hlt (pc_new (show newB xs k = false from allN_bad (f := fun i => !(decide ((pg xs i).name = (pg xs k).name))) i' hlti h)))
                        have HGd := Lib.hid (fun h => allN_step (f := fun i => !(decide ((pg xs i).name = (pg xs k).name))) Hai.out h)
                        have hil : (i' : Int) < (xs.length : Int) := by omega
                        rw [hnm] at y1 hq HBd HGd
                        obtain ⟨wz, hwz⟩ : ∃ z, z = wr := ⟨_, rfl⟩
                        rw [← hwz] at y0 y1 Hwx Hbx ⊢
                        clear hwz hbx hat' hat'' hA' hA''
                        generalize (pg xs i').name = ni at *
                        cases hqe : decide (ni = nm) with
                        | true =>
                          have Hr := Lib.hid (HBd.out (by rw [hqe]; rfl))
                          rw [hqe] at hq
                          clear hqe
                          go_wp2_with fail
                          go_quiet (fail)
                          have Hbz := Lib.hid (below_drewN Hbx.out nq)
                          go_wp2_with fail
                          go_ret
                          exact ⟨ret_bool Hr.out.symm, Hbz.out⟩
                        | false =>
                          have Hr := Lib.hid (HGd.out (by rw [hqe]; rfl))
                          rw [hqe] at hq
                          clear hqe
                          go_wp2_with fail
                          go_quiet (fail)
                          go_wp2_with fail
                          go_roundw
                          case rel => exact ⟨i' + 1, d + nq, by omega, by go_num, by rw [hnm]; exact Hr.out, by rw [Hwx.out]; first | rfl | exact World.drewN_drewN _ _ _⟩
                          case measure => first | (simp [intOf]; done) | (simp [intOf]; omega)
                      · obtain rfl : k = i' := by omega
                        have hlti' : ¬ ((k : Int) < (k : Int)) := by omega
                        have HYn := Lib.hid (HYp.out Hai.out)
                        go_wp2_with fail
                        go_roundw
                        case rel => exact ⟨k + 1, by omega, by go_num, HYn.out, HYt.out, Hbx.out⟩
                        case measure => first | (simp [intOf]; done) | (simp [intOf]; omega)
                  · have hrb : (1000000 : Int) < (r : Int) := by have := hr2 (by omega); omega
                    have Hr := Lib.hid (okP_tot hlt (show totB xs k = false from decide_eq_false ht))
                    clear hr1 hr2 hr3 ht
                    go_wp2_with fail
                    go_ret
                    exact ⟨ret_bool Hr.out.symm, Hbl.out⟩
      · obtain rfl : k = xs.length := by omega
        have hlt' : ¬ ((xs.length : Int) < (xs.length : Int)) := by omega
        have Hr := Lib.hid (okP_yes hl Hall.out Hallt.out)
        go_wp2_with fail
        go_ret
        exact ⟨ret_bool Hr.out.symm, Hbl.out⟩
end Go.Proofs.YtepgfcjfdnakbaaDoor
/- Inventories, part 5: codes of a piece; rows of truth values; what belongs to a piece, in plain words. -/
namespace Go.Proofs.YtepgfcjfdnakbaaDoor
open Go.RowKit Go.Joins

def cdP (xs : List Pc) (k : Int) : Int := if okP xs then (if inB k 0 ((xs.length : Int) - 1) then 0 else 2) else 1
theorem cdP_bad {xs : List Pc} {k : Int} (h : okP xs = false) : cdP xs k = 1 := by unfold cdP; rw [h]; rfl
theorem cdP_rng {xs : List Pc} {k : Int} (h : okP xs = true) (h2 : inB k 0 ((xs.length : Int) - 1) = false) : cdP xs k = 2 := by unfold cdP; rw [h, h2]; rfl
theorem cdP_yes {xs : List Pc} {k : Int} (h : okP xs = true) (h2 : inB k 0 ((xs.length : Int) - 1) = true) : cdP xs k = 0 := by unfold cdP; rw [h, h2]; rfl
theorem cdP_ok {xs : List Pc} {k : Int} (h : cdP xs k = 0) : okP xs = true ∧ ∃ j : Nat, k = (j : Int) ∧ j < xs.length := by
  cases h1 : okP xs with
  | false => rw [cdP_bad h1] at h; cases h
  | true =>
    cases h2 : inB k 0 ((xs.length : Int) - 1) with
    | false => rw [cdP_rng h1 h2] at h; cases h
    | true =>
      have := inB_iff.1 h2
      exact ⟨rfl, k.toNat, by omega, by omega⟩
theorem codeI_any (B : Nat) (v : Value) (xs : List Pc) (k : Int) (w : World) (h : RdP w B v xs) (hB : B ≤ w.heap.size) (hn : xs.length ≤ 100000) (hz : szP xs) :
    Calls Tryd.prog 53 #[v, .int .i64 k] w fun e w' => e = .returned (.int .i64 (cdP xs k)) ∧ Below w.heap.size w w' := by
  have HV := Lib.hid (ValidPI_any B v xs w h hB hn hz)
  have HX := Lib.hid (fun wx => between_any k 0 ((xs.length : Int) - 1) wx)
  obtain ⟨A, c, rfl⟩ := h.slice
  have hw : IntKind.i64.wrap ((xs.length : Int) - 1) = (xs.length : Int) - 1 := IntWalk.i64_in _ (by omega)
  clear h hz
  cases h1 : okP xs with
  | false =>
    have Hr := Lib.hid (cdP_bad (k := k) h1)
    rw [h1] at HV
    clear h1
    go_enter Tryd.func53, Tryd.ntmps53
    go_wp2_with fail
    refine (HV.out).mono ?_; rintro e w2 ⟨rfl, hb2⟩
    have Hb := Lib.hid hb2
    clear hb2
    go_wp2_with fail
    go_ret
    exact ⟨ret_int Hr.out.symm, Hb.out⟩
  | true =>
    rw [h1] at HV
    cases h2 : inB k 0 ((xs.length : Int) - 1) with
    | false =>
      have Hr := Lib.hid (cdP_rng h1 h2)
      rw [h2] at HX
      clear h1 h2
      go_enter Tryd.func53, Tryd.ntmps53
      go_wp2_with fail
      refine (HV.out).mono ?_; rintro e w2 ⟨rfl, hb2⟩
      have Hb := Lib.hid hb2
      clear hb2
      go_wp2_with fail
      refine (HX.out _).mono ?_; rintro e w1 ⟨rfl, rfl⟩
      go_wp2_with fail
      go_ret
      exact ⟨ret_int Hr.out.symm, Hb.out⟩
    | true =>
      have Hr := Lib.hid (cdP_yes h1 h2)
      rw [h2] at HX
      clear h1 h2
      go_enter Tryd.func53, Tryd.ntmps53
      go_wp2_with fail
      refine (HV.out).mono ?_; rintro e w2 ⟨rfl, hb2⟩
      have Hb := Lib.hid hb2
      clear hb2
      go_wp2_with fail
      refine (HX.out _).mono ?_; rintro e w1 ⟨rfl, rfl⟩
      go_wp2_with fail
      go_ret
      exact ⟨ret_int Hr.out.symm, Hb.out⟩
theorem codeS_any (B : Nat) (v : Value) (xs : List Pc) (k : Int) (w : World) (h : RdP w B v xs) (hB : B ≤ w.heap.size) (hn : xs.length ≤ 100000) (hz : szP xs) :
    Calls Tryd.prog 55 #[v, .int .i64 k] w fun e w' => e = .returned (.int .i64 (cdP xs k)) ∧ Below w.heap.size w w' := by
  have HV := Lib.hid (ValidPS_any B v xs w h hB hn hz)
  have HX := Lib.hid (fun wx => l00In_any k 0 ((xs.length : Int) - 1) wx)
  obtain ⟨A, c, rfl⟩ := h.slice
  have hw : IntKind.i64.wrap ((xs.length : Int) - 1) = (xs.length : Int) - 1 := IntWalk.i64_in _ (by omega)
  clear h hz
  cases h1 : okP xs with
  | false =>
    have Hr := Lib.hid (cdP_bad (k := k) h1)
    rw [h1] at HV
    clear h1
    go_enter Tryd.func55, Tryd.ntmps55
    go_wp2_with fail
    refine (HV.out).mono ?_; rintro e w2 ⟨rfl, hb2⟩
    have Hb := Lib.hid hb2
    clear hb2
    go_wp2_with fail
    go_ret
    exact ⟨ret_int Hr.out.symm, Hb.out⟩
  | true =>
    rw [h1] at HV
    cases h2 : inB k 0 ((xs.length : Int) - 1) with
    | false =>
      have Hr := Lib.hid (cdP_rng h1 h2)
      rw [h2] at HX
      clear h1 h2
      go_enter Tryd.func55, Tryd.ntmps55
      go_wp2_with fail
      refine (HV.out).mono ?_; rintro e w2 ⟨rfl, hb2⟩
      have Hb := Lib.hid hb2
      clear hb2
      go_wp2_with fail
      refine (HX.out _).mono ?_; rintro e w1 ⟨rfl, rfl⟩
      go_wp2_with fail
      go_ret
      exact ⟨ret_int Hr.out.symm, Hb.out⟩
    | true =>
      have Hr := Lib.hid (cdP_yes h1 h2)
      rw [h2] at HX
      clear h1 h2
      go_enter Tryd.func55, Tryd.ntmps55
      go_wp2_with fail
      refine (HV.out).mono ?_; rintro e w2 ⟨rfl, hb2⟩
      have Hb := Lib.hid hb2
      clear hb2
      go_wp2_with fail
      refine (HX.out _).mono ?_; rintro e w1 ⟨rfl, rfl⟩
      go_wp2_with fail
      go_ret
      exact ⟨ret_int Hr.out.symm, Hb.out⟩
/-! rows of truth values -/
def tabB (n : Nat) (f : Nat → Bool) : List Value := (List.range n).map fun i => .bool (f i)
theorem tabB_len (n : Nat) (f : Nat → Bool) : (tabB n f).length = n := by simp [tabB]
theorem tabB_at {n i : Nat} (f : Nat → Bool) (h : i < n) : (tabB n f)[i]? = some (.bool (f i)) := by simp [tabB, h]
theorem tabB_congr {n : Nat} {f g : Nat → Bool} (h : ∀ i, i < n → f i = g i) : tabB n f = tabB n g := by
  unfold tabB
  exact List.map_congr_left fun i hi => by rw [h i (List.mem_range.1 hi)]
def putB (f : Nat → Bool) (a : Nat) (y : Bool) : Nat → Bool := fun x => if x = a then y else f x
theorem tabB_set (n : Nat) (f : Nat → Bool) (a : Nat) (y : Bool) : (tabB n f).set a (.bool y) = tabB n (putB f a y) := by
  refine List.ext_getElem (by simp [tabB]) fun i h1 h2 => ?_
  rw [List.getElem_set]
  simp only [tabB, List.getElem_map, List.getElem_range, putB]
  by_cases h : a = i
  · simp [h]
  · rw [if_neg h, if_neg (fun e => h e.symm)]
theorem infoBo : (Tryd.prog.info? 4).map (fun i => (i.zero, i.size, i.bytes)) = some (some (.bool false), 1, 1) := by kernel_rfl
theorem mk_bools (n : Nat) (hn : n ≤ 1000) (w : World) : ∃ w', (Instr.makeSlice 68 (.int .i64 (n : Int)) (.int .i64 (n : Int))).run Tryd.prog w = .ok (.slice (some ⟨w.heap.size, 0, none⟩) n n) w' ∧
    w'.ownsRow w.heap.size 4 1 (.slice (some ⟨w.heap.size, 0, none⟩) n n) n (tabB n (fun _ => false)) ∧ Below w.heap.size w w' := by
  obtain ⟨i, hi, hz, h2, h3⟩ := info_parts infoBo
  obtain ⟨w1, hr, hown, hg⟩ := run_makeSlice_full (P := Tryd.prog) (w := w) w.heap.size 68 4 i _ 1 Tryd.underlying68 hi hz h2 .i64 .i64 n (by omega) (by rw [h3]; omega) (by simp [maxLen]; omega) (Nat.le_refl _)
  refine ⟨w1, hr, ?_, below_of_grown hg (Nat.le_refl _) (fun x hx => by cases hx)⟩
  have e : (madeCells (Value.cells (.bool false)) (n * 1)).toList = tabB n (fun _ => false) := by
    rw [Nat.mul_one]
    refine List.ext_getElem (by simp [madeCells, tabB]) fun i h1 h2 => ?_
    simp [madeCells, tabB, Value.cells]
    rw [Nat.mod_one]; rfl
  rw [← e]
  exact hown
theorem own_cellB {w : World} {base n g cap : Nat} {e : TypeId} {f : Nat → Bool} (h : w.ownsRow base e 1 (.slice (some ⟨g, 0, none⟩) n cap) n (tabB n f)) (j : Nat) (hj : j < n) : w.cell? ⟨g, j, none⟩ = some (.bool (f j)) ∧ w.frozen? ⟨g, j, none⟩ = false :=
  ⟨(h.cellAt j (by omega)).trans (tabB_at f hj), h.frozenAt j⟩
/-! what belongs to a piece -/
def undS (xs : List Pc) (k : Nat) (U : Nat → Bool) (i : Nat) : Bool := if i = k then true else if k < i then U (pg xs i).par.toNat else false
def und (xs : List Pc) (k : Nat) : Nat → Bool := tv false (undS xs k)
theorem und_self (xs : List Pc) (k : Nat) : und xs k k = true := by
  unfold und
  rw [tv_eq]
  show (if k = k then true else _) = true
  rw [if_pos rfl]
theorem und_lt (xs : List Pc) {k i : Nat} (h : i < k) : und xs k i = false := by
  unfold und
  rw [tv_eq]
  show (if i = k then true else if k < i then _ else false) = false
  rw [if_neg (by omega), if_neg (by omega)]
theorem und_step {xs : List Pc} {n k i : Nat} (hs : Shp xs n) (h : k < i) (hi : i < n) : und xs k i = und xs k (pg xs i).par.toNat := by
  have hp := hs.par i (by omega) hi
  unfold und
  rw [tv_eq]
  show (if i = k then true else if k < i then (if (pg xs i).par.toNat < i then tv false (undS xs k) (pg xs i).par.toNat else false) else false) = _
  rw [if_neg (by omega), if_pos h, if_pos (by omega)]
end Go.Proofs.YtepgfcjfdnakbaaDoor
/- Errors of tables, part 3: rounded tables. -/
namespace Go.Proofs.YtepgfcjfdnakbaaDoor
open Go.RowKit Go.Joins

set_option maxRecDepth 100000 in
set_option maxHeartbeats 1600000 in
theorem f6ints_same (B1 B2 : Nat) (v1 v2 : Value) (n : Nat) (f g : Nat → Int) (w : World) (h : Rd w B1 v1 n 1 (tab n f)) (h' : Rd w B2 v2 n 1 (tab n g)) (hn : n ≤ 1000) (he : ∀ i, i < n → f i = g i) :
    Calls Tryd.prog 22 #[v1, v2] w fun e w' => e = .returned (.bool true) ∧ ∃ k, w' = w.drewN k := by
  have H := Lib.hid h
  have H' := Lib.hid h'
  have HE := Lib.hid he
  obtain ⟨A, c, rfl⟩ := rd_sl h
  obtain ⟨A', c', rfl⟩ := rd_sl h'
  clear h h' he
  go_enter Tryd.func22, Tryd.ntmps22
  go_wp2_with fail
  go_loopw [5] (fun i wr => ∃ (k d : Nat), k ≤ n ∧ i = .int .i64 (k : Int) ∧ wr = w.drewN d) (fun i _ => n - (intOf i).toNat)
  case atStart => exact ⟨0, 0, Nat.zero_le _, rfl, rfl⟩
  case round =>
    obtain ⟨k, d, hk, rfl, rfl⟩ := hrel
    by_cases hlt : k < n
    · obtain ⟨b1, o1, hA, _, hcc⟩ := rdF_all H.out (by omega)
      obtain ⟨b2, o2, hA', _, hcc'⟩ := rdF_all H'.out (by omega)
      subst hA hA'
      have q0 := hcc k hlt
      have q1 := hcc' k hlt
      rw [← HE.out k hlt] at q1
      have hlt' : (k : Int) < (n : Int) := by omega
      generalize f k = x at *
      clear hcc hcc'
      go_wp2_with fail
      go_quiet (fail)
      go_wp2_with fail
      go_roundw
      case rel => exact ⟨k + 1, d + _, by omega, by go_num, rfl⟩
      case measure => first | (simp [intOf]; done) | (simp [intOf]; omega)
    · have hlt' : (n : Int) ≤ (k : Int) := by omega
      go_wp2_with fail
      go_ret
      exact ⟨rfl, d, rfl⟩
theorem f6big_c (B n : Nat) (v : Value) (xs : List Value) (w : World) (h : Rd w B v n 1 xs) : Calls Tryd.prog 5 #[v] w fun e w' => e = .returned (.bool (decide (4096 < n))) ∧ w = w' := by
  obtain ⟨A, c, rfl⟩ := rd_sl h
  clear h
  by_cases hc : 4096 < n
  · have h1 : (4096 : Int) < (n : Int) := by omega
    go_enter Tryd.func5, Tryd.ntmps5
    go_wp2_with fail
    go_ret
    exact ⟨ret_bool (by simp [hc]), rfl⟩
  · have h1 : ¬ (4096 : Int) < (n : Int) := by omega
    go_enter Tryd.func5, Tryd.ntmps5
    go_wp2_with fail
    go_ret
    exact ⟨ret_bool (by simp [hc]), rfl⟩
/-- a table, or none and a code -/
def RetTab (w : World) (code : Int) (n : Nat) (f : Nat → Int) (e : Ending) (w' : World) : Prop :=
  ∃ v m, e = .returned (.tuple #[v, .int .i64 code]) ∧ (code = 0 → m = n) ∧ (code ≠ 0 → m = 0) ∧ w'.ownsRow w.heap.size 2 1 v m (tab m f) ∧ Below w.heap.size w w'
theorem RetTab.no {w w' : World} {code : Int} {n : Nat} {f : Nat → Int} (h : code ≠ 0) (hb : Below w.heap.size w w') : RetTab w code n f (.returned (.tuple #[.slice none 0 0, .int .i64 code])) w' :=
  ⟨_, 0, rfl, fun e => absurd e h, fun _ => rfl, World.ownsRow_nil _ _ _ _, hb⟩
theorem RetTab.yes {w w' : World} {n : Nat} {f : Nat → Int} {v : Value} (h : w'.ownsRow w.heap.size 2 1 v n (tab n f)) (hb : Below w.heap.size w w') : RetTab w 0 n f (.returned (.tuple #[v, .int .i64 0])) w' :=
  ⟨_, n, rfl, fun _ => rfl, fun e => absurd rfl e, h, hb⟩
/-- .. with the code by its equation -/
theorem RetTab.no' {w w' : World} {code c : Int} {n : Nat} {f : Nat → Int} (he : code = c) (h : c ≠ 0) (hb : Below w.heap.size w w') : RetTab w code n f (.returned (.tuple #[.slice none 0 0, .int .i64 c])) w' := by
  subst he; exact RetTab.no h hb
theorem RetTab.yes' {w w' : World} {code : Int} {n : Nat} {f : Nat → Int} {v : Value} (he : code = 0) (h : w'.ownsRow w.heap.size 2 1 v n (tab n f)) (hb : Below w.heap.size w w') : RetTab w code n f (.returned (.tuple #[v, .int .i64 0])) w' := by
  subst he; exact RetTab.yes h hb

/-- the greatest error of the first k values -/
def wmx (f : Nat → Int) (u : Int) : Nat → Int
  | 0 => 0
  | k + 1 => max (wmx f u k) (((f k - ru (f k) u * u).natAbs : Nat) : Int)
theorem wmx_bd {f : Nat → Int} {u : Int} {n : Nat} (hu : 1 ≤ u ∧ u ≤ 1000000) : ∀ k, 0 ≤ wmx f u k ∧ wmx f u k ≤ 1000000 ∧ 2 * wmx f u k ≤ u
  | 0 => by show (0 : Int) ≤ 0 ∧ (0 : Int) ≤ 1000000 ∧ 2 * (0 : Int) ≤ u; omega
  | k + 1 => by
    have h1 := wmx_bd (f := f) (n := n) hu k
    have h2 := ru_bd (v := f k) (u := u) (by omega)
    have e : wmx f u (k + 1) = max (wmx f u k) (((f k - ru (f k) u * u).natAbs : Nat) : Int) := rfl
    omega
end Go.Proofs.YtepgfcjfdnakbaaDoor
