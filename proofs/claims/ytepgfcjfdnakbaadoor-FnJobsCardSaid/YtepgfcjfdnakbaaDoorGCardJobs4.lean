/- Merged texts: Pc13, Pc14, Pc15, Pc16, Pc17, Pc18, Pc19, Pc20, Pc21, Jb7, Jb8, Jc4, Pc22, Pc23, Pc24, Pc25, Pc26, Pc27, Pq1. -/
import Derived.Test.YtepgfcjfdnakbaaDoorGCardJobs3
import Derived.BigRegion
import Derived.Deep.Cut
import Derived.Deep.OwnRows
/- Inventories, part 13: l21Makes. -/
namespace Go.Proofs.YtepgfcjfdnakbaaDoor
open Go.RowKit Go.Joins

theorem mkB_no {xs : List Pc} {st : Nat → Int} {n : Nat} {mm : Int} {k : Nat} (hk : k < n) (hw : whoS xs n k = false) (h : 0 < ms xs st mm k) : mkB xs st n mm = false :=
  allN_bad k hk (by rw [hw, Bool.false_or]; simp; omega)
end Go.Proofs.YtepgfcjfdnakbaaDoor
/- Inventories, part 14: MostMachines of the reference. -/
namespace Go.Proofs.YtepgfcjfdnakbaaDoor
open Go.RowKit Go.Joins

def RetMM (xs : List Pc) (n : Nat) (f : Nat → Int) (w : World) (e : Ending) (w' : World) : Prop := ∃ r : Nat, e = .returned (.tuple #[.int .i64 (r : Int), .int .i64 (stC xs n f)]) ∧ (stC xs n f = 0 → BestM xs f xs.length r) ∧ (stC xs n f ≠ 0 → r = 0) ∧ Below w.heap.size w w'
theorem RetMM.bad {xs : List Pc} {n : Nat} {f : Nat → Int} {c : Int} {w w' : World} (h : stC xs n f = c) (hc : c ≠ 0) (hb : Below w.heap.size w w') : RetMM xs n f w (.returned (.tuple #[.int .i64 0, .int .i64 c])) w' :=
  ⟨0, by rw [h]; rfl, fun h0 => absurd (h.symm.trans h0) hc, fun _ => rfl, hb⟩
theorem RetMM.good {xs : List Pc} {n r : Nat} {f : Nat → Int} {w w' : World} (h : stC xs n f = 0) (hr : BestM xs f xs.length r) (hb : Below w.heap.size w w') : RetMM xs n f w (.returned (.tuple #[.int .i64 (r : Int), .int .i64 0])) w' :=
  ⟨r, by rw [h], fun _ => hr, fun h0 => absurd h h0, hb⟩
end Go.Proofs.YtepgfcjfdnakbaaDoor
/- Inventories, part 15: MostMachines of the program. -/
namespace Go.Proofs.YtepgfcjfdnakbaaDoor
open Go.RowKit Go.Joins

end Go.Proofs.YtepgfcjfdnakbaaDoor
/- Inventories, part 16: a list without a piece and all that belongs to it, in plain words. -/
namespace Go.Proofs.YtepgfcjfdnakbaaDoor

/-- the places that stay -/
def kpt (xs : List Pc) (k m : Nat) : List Nat := (List.range m).filter fun i => !(und xs k i)
/-- the new place of a piece -/
def plc (xs : List Pc) (k i : Nat) : Nat := (kpt xs k i).length
def cutP (xs : List Pc) (k i : Nat) : Pc := if i = 0 then pg xs 0 else { pg xs i with par := (plc xs k (pg xs i).par.toNat : Int) }
def cutL (xs : List Pc) (k m : Nat) : List Pc := (kpt xs k m).map (cutP xs k)
theorem kpt_no {xs : List Pc} {k m : Nat} (h : und xs k m = true) : kpt xs k (m + 1) = kpt xs k m := by
  unfold kpt
  rw [List.range_succ, List.filter_append]
  simp [h]
theorem kpt_yes {xs : List Pc} {k m : Nat} (h : und xs k m = false) : kpt xs k (m + 1) = kpt xs k m ++ [m] := by
  unfold kpt
  rw [List.range_succ, List.filter_append]
  simp [h]
theorem cutL_no {xs : List Pc} {k m : Nat} (h : und xs k m = true) : cutL xs k (m + 1) = cutL xs k m := by unfold cutL; rw [kpt_no h]
theorem cutL_yes {xs : List Pc} {k m : Nat} (h : und xs k m = false) : cutL xs k (m + 1) = cutL xs k m ++ [cutP xs k m] := by unfold cutL; rw [kpt_yes h, List.map_append]; rfl
theorem cutL_len (xs : List Pc) (k m : Nat) : (cutL xs k m).length = plc xs k m := by unfold cutL plc; rw [List.length_map]
theorem plc_le (xs : List Pc) (k m : Nat) : plc xs k m ≤ m := by
  unfold plc kpt
  exact Nat.le_trans (List.length_filter_le _ _) (by simp)
theorem plc_no {xs : List Pc} {k m : Nat} (h : und xs k m = true) : plc xs k (m + 1) = plc xs k m := by unfold plc; rw [kpt_no h]
theorem plc_yes {xs : List Pc} {k m : Nat} (h : und xs k m = false) : plc xs k (m + 1) = plc xs k m + 1 := by unfold plc; rw [kpt_yes h, List.length_append]; rfl
theorem plc_step (xs : List Pc) (k m : Nat) : plc xs k m ≤ plc xs k (m + 1) := by
  cases h : und xs k m with
  | true => rw [plc_no h]; exact Nat.le_refl _
  | false => rw [plc_yes h]; omega
theorem plc_mono (xs : List Pc) (k : Nat) {a : Nat} : ∀ {b : Nat}, a ≤ b → plc xs k a ≤ plc xs k b := by
  intro b
  induction b with
  | zero => intro h; rw [Nat.le_zero.1 h]; exact Nat.le_refl _
  | succ b ih =>
    intro h
    by_cases e : a = b + 1
    · rw [e]; exact Nat.le_refl _
    · exact Nat.le_trans (ih (by omega)) (plc_step xs k b)
/-- a piece that stays: its parent stays -/
theorem par_stays {xs : List Pc} {n k i : Nat} (hs : Shp xs n) (h0 : 0 < i) (hi : i < n) (h : und xs k i = false) : und xs k (pg xs i).par.toNat = false := by
  have hp := hs.par i h0 hi
  by_cases h1 : k < i
  · rw [← und_step hs h1 hi]; exact h
  · by_cases h2 : i = k
    · subst h2; rw [und_self] at h; cases h
    · exact und_lt xs (by omega)
theorem plc_lt {xs : List Pc} {k i m : Nat} (h : i < m) (hu : und xs k i = false) : plc xs k i < plc xs k m := by
  have := plc_mono xs k (show i + 1 ≤ m from h)
  rw [plc_yes hu] at this
  omega
/-- a piece that stays, at its new place -/
theorem cutL_at {xs : List Pc} {k i : Nat} (hu : und xs k i = false) : ∀ m, i < m → pg (cutL xs k m) (plc xs k i) = cutP xs k i
  | 0, h => by omega
  | m + 1, h => by
    have hl := cutL_len xs k m
    cases hm : und xs k m with
    | true =>
      have hne : i ≠ m := fun e => by rw [e, hm] at hu; cases hu
      rw [cutL_no hm]
      exact cutL_at hu m (by omega)
    | false =>
      rw [cutL_yes hm]
      unfold pg
      by_cases e : i = m
      · subst e
        rw [← hl]
        exact getD_last _ _ _
      · have := plc_lt (show i < m by omega) hu
        rw [getD_left _ _ _ _ (by omega)]
        exact cutL_at hu m (by omega)
/-- a place of the list that is left is the new place of a piece that stays -/
theorem plc_onto (xs : List Pc) (k : Nat) : ∀ m j, j < plc xs k m → ∃ i, i < m ∧ und xs k i = false ∧ plc xs k i = j
  | 0, j, h => by
    have := plc_le xs k 0
    omega
  | m + 1, j, h => by
    cases hm : und xs k m with
    | true =>
      rw [plc_no hm] at h
      obtain ⟨i, h1, h2, h3⟩ := plc_onto xs k m j h
      exact ⟨i, by omega, h2, h3⟩
    | false =>
      rw [plc_yes hm] at h
      by_cases e : j = plc xs k m
      · exact ⟨m, by omega, hm, e.symm⟩
      · obtain ⟨i, h1, h2, h3⟩ := plc_onto xs k m j (by omega)
        exact ⟨i, by omega, h2, h3⟩
theorem plc_inj {xs : List Pc} {k i j : Nat} (hi : und xs k i = false) (hj : und xs k j = false) (h : plc xs k i = plc xs k j) : i = j := by
  rcases Nat.lt_trichotomy i j with h1 | h1 | h1
  · have := plc_lt h1 hi; omega
  · exact h1
  · have := plc_lt h1 hj; omega
theorem plc_zero (xs : List Pc) (k : Nat) : plc xs k 0 = 0 := Nat.le_zero.1 (plc_le xs k 0)
/-- the list that is left has the shape of pieces -/
theorem cut_shp {xs : List Pc} {n k : Nat} (hs : Shp xs n) (hk : 0 < k) : Shp (cutL xs k n) (plc xs k n) := by
  refine ⟨fun h0 => ?_, fun j h0 hj => ?_, fun j hj => ?_⟩
  · have hn : 0 < n := by have := plc_le xs k n; omega
    have h := cutL_at (und_lt xs hk) n hn
    rw [plc_zero] at h
    rw [h]
    exact hs.par0 hn
  · obtain ⟨i, h1, h2, h3⟩ := plc_onto xs k n j hj
    have hi : i ≠ 0 := fun e => by subst e; rw [plc_zero] at h3; omega
    have h := cutL_at h2 n h1
    rw [h3] at h
    rw [h]
    unfold cutP
    rw [if_neg hi]
    have hp := hs.par i (by omega) h1
    have := plc_lt (show (pg xs i).par.toNat < i by omega) (par_stays hs (by omega) h1 h2)
    show (0 : Int) ≤ (plc xs k (pg xs i).par.toNat : Int) ∧ (plc xs k (pg xs i).par.toNat : Int) < (j : Int)
    omega
  · obtain ⟨i, h1, h2, h3⟩ := plc_onto xs k n j hj
    have h := cutL_at h2 n h1
    rw [h3] at h
    rw [h]
    have he := hs.each i h1
    unfold cutP
    split
    · rename_i e
      subst e
      exact he
    · exact he
theorem cut_tot {xs : List Pc} {n k : Nat} (hs : Shp xs n) (hk : 0 < k) : ∀ i, i < n → und xs k i = false → tot (cutL xs k n) (plc xs k i) = tot xs i := by
  intro i
  induction i using Nat.strongRecOn with
  | ind i ih =>
    intro hi hu
    have hsc := cut_shp hs hk
    have h := cutL_at hu n hi
    have hl := plc_lt hi hu
    by_cases h0 : i = 0
    · subst h0
      rw [plc_zero] at h hl ⊢
      rw [tot_zero hsc hl, tot_zero hs hi, h]
      rfl
    · have hp := hs.par i (by omega) hi
      have hlt : (pg xs i).par.toNat < i := by omega
      have h0l := plc_lt (show 0 < i by omega) (und_lt xs hk)
      rw [tot_step hsc (by omega) hl, tot_step hs (by omega) hi, h]
      have e : (cutP xs k i).par = (plc xs k (pg xs i).par.toNat : Int) := by unfold cutP; rw [if_neg h0]
      have e2 : (cutP xs k i).each = (pg xs i).each := by unfold cutP; rw [if_neg h0]
      rw [e, e2, Int.toNat_natCast, ih _ hlt (by omega) (par_stays hs (by omega) hi hu)]
end Go.Proofs.YtepgfcjfdnakbaaDoor
/- Inventories, part 17: the list that is left is a valid one. -/
namespace Go.Proofs.YtepgfcjfdnakbaaDoor

theorem cutP_name (xs : List Pc) (k i : Nat) : (cutP xs k i).name = (pg xs i).name := by
  unfold cutP; split
  · rename_i e; subst e; rfl
  · rfl
theorem cutP_each (xs : List Pc) (k i : Nat) : (cutP xs k i).each = (pg xs i).each := by
  unfold cutP; split
  · rename_i e; subst e; rfl
  · rfl
theorem cutP_price (xs : List Pc) (k i : Nat) : (cutP xs k i).price = (pg xs i).price := by
  unfold cutP; split
  · rename_i e; subst e; rfl
  · rfl
theorem cut_ok {xs : List Pc} {k : Nat} (h : okP xs = true) (hk : 0 < k) : okP (cutL xs k xs.length) = true := by
  obtain ⟨⟨hl1, hl40⟩, hall, hsh, htt⟩ := okP_ok h
  have hsc := cut_shp hsh hk
  have hlen := cutL_len xs k xs.length
  have hle := plc_le xs k xs.length
  have h0l := plc_lt (show 0 < xs.length by omega) (und_lt xs hk)
  rw [plc_zero] at h0l
  refine okP_yes (inB_true (by omega) (by omega)) ?_ ?_
  · refine List.all_eq_true.2 fun j hj => ?_
    have hj := List.mem_range.1 hj
    rw [hlen] at hj
    obtain ⟨i, h1, h2, h3⟩ := plc_onto xs k _ j hj
    have hat := cutL_at h2 _ h1
    rw [h3] at hat
    have hp := pcB_ok (allN_get hall h1)
    refine pc_yes ?_ ?_ ?_ ?_ ?_
    · rw [hat, cutP_name]; exact hp.1
    · refine List.all_eq_true.2 fun a ha => ?_
      have ha := List.mem_range.1 ha
      obtain ⟨b, b1, b2, b3⟩ := plc_onto xs k _ a (by omega : a < plc xs k xs.length)
      have hbt := cutL_at b2 _ b1
      rw [b3] at hbt
      have hbi : b < i := by
        apply Classical.byContradiction
        intro hn
        have := plc_mono xs k (show i ≤ b by omega)
        omega
      have hnn := List.all_eq_true.1 hp.2.1 b (List.mem_range.2 hbi)
      rw [hat, hbt, cutP_name, cutP_name]
      exact hnn
    · rw [hat, cutP_each]; exact inB_true hp.2.2.1.1 hp.2.2.1.2
    · rw [hat, cutP_price]; exact inB_true hp.2.2.2.1.1 hp.2.2.2.1.2
    · unfold parB
      by_cases e : j = 0
      · rw [if_pos e]
        exact decide_eq_true (hsc.par0 h0l)
      · rw [if_neg e]
        have := hsc.par j (by omega) hj
        exact inB_true (by omega) (by omega)
  · refine List.all_eq_true.2 fun j hj => ?_
    have hj := List.mem_range.1 hj
    rw [hlen] at hj
    obtain ⟨i, h1, h2, h3⟩ := plc_onto xs k _ j hj
    have ht := cut_tot hsh hk i h1 h2
    rw [h3] at ht
    unfold totB
    rw [ht]
    exact decide_eq_true (htt i h1)
/-- the lengths: what is left, what belongs to the piece, the piece itself -/
theorem cut_lens (xs : List Pc) (k : Nat) : ∀ m, plc xs k m + (uL xs k m).length + (if k < m then 1 else 0) = m
  | 0 => by
    have := plc_le xs k 0
    have := uL_len xs k 0
    rw [if_neg (by omega)]
    omega
  | m + 1 => by
    have ih := cut_lens xs k m
    cases hm : und xs k m with
    | true =>
      rw [plc_no hm]
      by_cases h1 : k < m
      · rw [uL_yes h1 hm, List.length_append, if_pos (by omega)]
        rw [if_pos h1] at ih
        show _ + (_ + 1) + 1 = _
        omega
      · have e : m = k := by
          apply Classical.byContradiction
          intro hn
          have := und_lt xs (show m < k by omega)
          rw [this] at hm
          cases hm
        subst e
        rw [uL_start, if_pos (by omega)]
        rw [if_neg (by omega)] at ih
        have : (uL xs m m).length = 0 := by
          unfold uL
          rw [List.length_eq_zero_iff, List.filter_eq_nil_iff]
          intro i hi
          have := List.mem_range.1 hi
          simp; omega
        show _ + 0 + 1 = _
        omega
    | false =>
      rw [plc_yes hm, uL_no hm]
      have hne : m ≠ k := fun e => by subst e; rw [und_self] at hm; cases hm
      by_cases h1 : k < m
      · rw [if_pos (by omega)]
        rw [if_pos h1] at ih
        omega
      · rw [if_neg (by omega)]
        rw [if_neg h1] at ih
        omega
end Go.Proofs.YtepgfcjfdnakbaaDoor
/- Inventories, part 18: codes of a cut; how the list that is left is given. -/
namespace Go.Proofs.YtepgfcjfdnakbaaDoor
open Go.RowKit Go.Joins

def cuC (xs : List Pc) (k : Int) : Int := if cdP xs k = 0 then (if k = 0 then 6 else 0) else cdP xs k
def cuL (xs : List Pc) (k : Int) : List Pc := if cuC xs k = 0 then cutL xs k.toNat xs.length else []
theorem cuC_ok {xs : List Pc} {k : Int} (h : cuC xs k = 0) : okP xs = true ∧ ∃ j : Nat, k = (j : Int) ∧ 0 < j ∧ j < xs.length ∧ cdP xs k = 0 := by
  unfold cuC at h
  split at h
  · rename_i h1
    split at h
    · cases h
    · rename_i h2
      obtain ⟨hok, j, rfl, hj⟩ := cdP_ok h1
      exact ⟨hok, j, rfl, by omega, hj, h1⟩
  · rename_i h1
    exact absurd h h1
/-- a row of pieces of the call's own, and a code -/
def RetCu (xs : List Pc) (k : Int) (w : World) (e : Ending) (w' : World) : Prop := ∃ v, e = .returned (.tuple #[v, .int .i64 (cuC xs k)]) ∧ w'.ownsRow w.heap.size 46 4 v (cuL xs k).length ((cuL xs k).flatMap cellsP) ∧ Below w.heap.size w w'
theorem RetCu.bad {xs : List Pc} {k c : Int} {w w' : World} (h : cuC xs k = c) (hc : c ≠ 0) (hb : Below w.heap.size w w') : RetCu xs k w (.returned (.tuple #[.slice none 0 0, .int .i64 c])) w' := by
  have e : cuL xs k = [] := by unfold cuL; rw [h, if_neg hc]
  refine ⟨_, by rw [h], ?_, hb⟩
  rw [e]
  exact ⟨by simp, .inl ⟨rfl, rfl⟩⟩
end Go.Proofs.YtepgfcjfdnakbaaDoor
/- Inventories, part 19: rows of numbers made by 'make'; the places of the pieces that stay. -/
namespace Go.Proofs.YtepgfcjfdnakbaaDoor
open Go.RowKit Go.Joins

/-- the places that are written in front of place m -/
def nmA (xs : List Pc) (k m j : Nat) : Int := if j < m ∧ und xs k j = false then (plc xs k j : Int) else 0
theorem nmA_zero (xs : List Pc) (k n : Nat) : tab n (fun _ => 0) = tab n (nmA xs k 0) := tab_congr fun i _ => by unfold nmA; rw [if_neg (by omega)]
theorem nmA_at {xs : List Pc} {k m j : Nat} (h : j < m) (hu : und xs k j = false) : nmA xs k m j = (plc xs k j : Int) := by unfold nmA; rw [if_pos ⟨h, hu⟩]
theorem nmA_no {xs : List Pc} {k m : Nat} (n : Nat) (hu : und xs k m = true) : tab n (nmA xs k m) = tab n (nmA xs k (m + 1)) := tab_congr fun i _ => by
  unfold nmA
  by_cases e : i = m
  · subst e; simp [hu]
  · by_cases h : i < m
    · have h' : i < m + 1 := by omega
      simp [h, h']
    · have h' : ¬ (i < m + 1) := by omega
      simp [h, h']
theorem nmA_yes {xs : List Pc} {k m : Nat} (n : Nat) (hu : und xs k m = false) : (tab n (nmA xs k m)).set m (.int .i64 (plc xs k m : Int)) = tab n (nmA xs k (m + 1)) := by
  refine List.ext_getElem (by simp [tab]) fun i h1 h2 => ?_
  rw [List.getElem_set]
  simp only [tab, List.getElem_map, List.getElem_range]
  by_cases e : m = i
  · subst e
    rw [if_pos rfl, nmA_at (by omega) hu]
  · rw [if_neg e]
    unfold nmA
    by_cases h : i < m
    · have h' : i < m + 1 := by omega
      simp [h, h']
    · have h' : ¬ (i < m + 1) := by omega
      simp [h, h']
end Go.Proofs.YtepgfcjfdnakbaaDoor
/- Inventories, part 20: the rows that CutPiece fills. -/
namespace Go.Proofs.YtepgfcjfdnakbaaDoor
open Go.RowKit Go.Joins

theorem apart_p {w : World} {b1 b2 s1 s2 n1 n2 : Nat} {e1 e2 : TypeId} {v1 v2 : Value} {x1 x2 : List Value} (h1 : w.ownsRow b1 e1 s1 v1 n1 x1) (h2 : w.ownsRow b2 e2 s2 v2 n2 x2) (he : e1 ≠ e2) : v1.ownBlock = none ∨ v1.ownBlock ≠ v2.ownBlock := by
  rcases h1.2 with ⟨rfl, _⟩ | ⟨g1, cap1, cur1, rfl, _, hg1, _⟩
  · exact .inl rfl
  rcases h2.2 with ⟨rfl, _⟩ | ⟨g2, cap2, cur2, rfl, _, hg2, _⟩
  · exact .inr (by simp [Value.ownBlock])
  refine .inr fun h => ?_
  obtain rfl : g1 = g2 := by simpa [Value.ownBlock] using h
  rw [hg1] at hg2
  injection hg2 with h3
  injection h3 with _ h4
  exact he h4
theorem apart_g {w : World} {b1 b2 s1 s2 n1 n2 g c2 : Nat} {e1 e2 : TypeId} {v1 : Value} {x1 x2 : List Value} (h1 : w.ownsRow b1 e1 s1 v1 n1 x1) (h2 : w.ownsRow b2 e2 s2 (.slice (some ⟨g, 0, none⟩) n2 c2) n2 x2) (he : e1 ≠ e2) : v1.ownBlock ≠ some g := by
  rcases apart_p h1 h2 he with h | h
  · rw [h]; simp
  · exact h
theorem own_lower {w : World} {b b' sz n : Nat} {e : TypeId} {v : Value} {xs : List Value} (h : w.ownsRow b e sz v n xs) (hb : b' ≤ b) : w.ownsRow b' e sz v n xs := by
  refine ⟨h.1, ?_⟩
  rcases h.2 with h2 | ⟨g, cap, cur, hv, hg, r⟩
  · exact .inl h2
  · exact .inr ⟨g, cap, cur, hv, Nat.le_trans hb hg, r⟩
/-- a row stays where a row of another type is appended to -/
theorem own_keptT {w w' : World} {b1 b2 s1 s2 n1 n2 g c : Nat} {e1 e2 : TypeId} {v2 : Value} {x1 x2 : List Value} (h1 : w.ownsRow b1 e1 s1 (.slice (some ⟨g, 0, none⟩) n1 c) n1 x1) (h2 : w.ownsRow b2 e2 s2 v2 n2 x2) (he : e1 ≠ e2) (hg : w.grownBy w' v2.ownBlock) : w'.ownsRow b1 e1 s1 (.slice (some ⟨g, 0, none⟩) n1 c) n1 x1 := by
  refine h1.kept hg ?_
  rcases apart_p h1 h2 he with h | h
  · exact .inl h
  · exact .inr h
/-- the rows of a cut: marks, places, pieces that are left -/
structure CuI (xs : List Pc) (k cu gU gN : Nat) (w wr : World) (r : Value) (m m2 : Nat) : Prop where
  und : wr.ownsRow w.heap.size 4 1 (.slice (some ⟨gU, 0, none⟩) xs.length cu) xs.length (tabB xs.length (und xs k))
  nam : wr.ownsRow w.heap.size 2 1 (.slice (some ⟨gN, 0, none⟩) xs.length xs.length) xs.length (tab xs.length (nmA xs k m2))
  row : wr.ownsRow w.heap.size 46 4 r (plc xs k m) ((cutL xs k m).flatMap cellsP)
  bel : Below w.heap.size w wr
theorem CuI.no {xs : List Pc} {k cu gU gN m : Nat} {w wr : World} {r : Value} (h : CuI xs k cu gU gN w wr r m m) (hu : Go.Proofs.YtepgfcjfdnakbaaDoor.und xs k m = true) : CuI xs k cu gU gN w wr r (m + 1) (m + 1) :=
  ⟨h.und, by rw [← nmA_no xs.length hu]; exact h.nam, by rw [plc_no hu, cutL_no hu]; exact h.row, h.bel⟩
theorem CuI.put {xs : List Pc} {k cu gU gN m : Nat} {w wr : World} {r : Value} (h : CuI xs k cu gU gN w wr r m m) (hu : Go.Proofs.YtepgfcjfdnakbaaDoor.und xs k m = false) : CuI xs k cu gU gN w (wr.setCell ⟨gN, m, none⟩ (.int .i64 (plc xs k m : Int))) r m (m + 1) := by
  have hlt := h.nam.lt gN rfl
  refine ⟨ownsRow_setCell_other h.und (a := ⟨gN, m, none⟩) (apart_g h.und h.nam (by decide)) _, ?_, ownsRow_setCell_other h.row (a := ⟨gN, m, none⟩) (apart_g h.row h.nam (by decide)) _, h.bel.setCell (p := ⟨gN, m, none⟩) hlt.1 _⟩
  rw [← nmA_yes xs.length hu]
  exact (h.nam.stored m _).1
theorem CuI.alloc {xs : List Pc} {k cu gU gN m m2 : Nat} {w wr : World} {r : Value} (h : CuI xs k cu gU gN w wr r m m2) (o : Obj) : CuI xs k cu gU gN w (wr.alloc o) r m m2 :=
  ⟨h.und.alloc o, h.nam.alloc o, h.row.alloc o, h.bel.alloc h.bel.size o⟩
/-- a cell of a block of pieces that is none of the rows is written -/
theorem CuI.new {xs : List Pc} {k cu gU gN m m2 : Nat} {w wr : World} {r : Value} (h : CuI xs k cu gU gN w wr r m m2) (o : Obj) (i : Nat) (u : Value) : CuI xs k cu gU gN w ((wr.alloc o).setCell ⟨wr.heap.size, i, none⟩ u) r m m2 := by
  have ha := h.alloc o
  have h1 := (h.und.lt gU rfl).2
  have h2 := (h.nam.lt gN rfl).2
  refine ⟨ownsRow_setCell_other ha.und (a := ⟨wr.heap.size, i, none⟩) (fun e => ?_) _, ownsRow_setCell_other ha.nam (a := ⟨wr.heap.size, i, none⟩) (fun e => ?_) _, ownsRow_setCell_other ha.row (a := ⟨wr.heap.size, i, none⟩) (fun e => ?_) _, ha.bel.setCell (p := ⟨wr.heap.size, i, none⟩) h.bel.size _⟩
  · injection e with e
    have e2 : gU = wr.heap.size := e
    omega
  · injection e with e
    have e2 : gN = wr.heap.size := e
    omega
  · have := (h.row.lt _ e).2
    exact Nat.lt_irrefl _ this
theorem CuI.app {xs : List Pc} {k cu gU gN m : Nat} {w wr w' : World} {r v' : Value} (h : CuI xs k cu gU gN w wr r m (m + 1)) (hu : Go.Proofs.YtepgfcjfdnakbaaDoor.und xs k m = false)
    (ho : w'.ownsRow w.heap.size 46 4 v' (plc xs k m + 1) ((cutL xs k m).flatMap cellsP ++ cellsP (cutP xs k m))) (hg : wr.grownBy w' r.ownBlock) : CuI xs k cu gU gN w w' v' (m + 1) (m + 1) := by
  refine ⟨own_keptT h.und h.row (by decide) hg, own_keptT h.nam h.row (by decide) hg, ?_, h.bel.grown hg h.bel.size (fun x hx => (h.row.lt x hx).1)⟩
  rw [plc_yes hu, cutL_yes hu, List.flatMap_append]
  simpa using ho
end Go.Proofs.YtepgfcjfdnakbaaDoor
/- Inventories, part 21: CutPiece of the reference (gen_pc21.py). -/
namespace Go.Proofs.YtepgfcjfdnakbaaDoor
open Go.RowKit Go.Joins

theorem own_cellI {w : World} {base n g cap : Nat} {e : TypeId} {f : Nat → Int} (h : w.ownsRow base e 1 (.slice (some ⟨g, 0, none⟩) n cap) n (tab n f)) (j : Nat) (hj : j < n) : w.cell? ⟨g, j, none⟩ = some (.int .i64 (f j)) ∧ w.frozen? ⟨g, j, none⟩ = false :=
  ⟨(h.cellAt j (by omega)).trans (tab_at f hj), h.frozenAt j⟩
theorem blk4p {w : World} {g : Nat} {a b c d : Value} {t : TypeId} (h : w.heap[g]? = some (.cells #[a, b, c, d] t (0, 0))) :
    (w.cell? ⟨g, 0, none⟩ = some a ∧ w.cell? ⟨g, 1, none⟩ = some b ∧ w.cell? ⟨g, 2, none⟩ = some c ∧ w.cell? ⟨g, 3, none⟩ = some d) ∧
    (w.frozen? ⟨g, 0, none⟩ = false ∧ w.frozen? ⟨g, 1, none⟩ = false ∧ w.frozen? ⟨g, 2, none⟩ = false ∧ w.frozen? ⟨g, 3, none⟩ = false) :=
  ⟨⟨by rw [cell_of_row w g 0 _ _ _ h]; rfl, by rw [cell_of_row w g 1 _ _ _ h]; rfl, by rw [cell_of_row w g 2 _ _ _ h]; rfl, by rw [cell_of_row w g 3 _ _ _ h]; rfl⟩, frozen_of_row w g 0 _ _ h, frozen_of_row w g 1 _ _ h, frozen_of_row w g 2 _ _ h, frozen_of_row w g 3 _ _ h⟩
theorem ones4 (a : ByteArray) (b c d : Int) : ∀ u ∈ (#[Value.string a, .int .i64 b, .int .i64 c, .int .i64 d] : Array Value).toList, u.oneCell' = true := by
  intro u hu
  simp at hu
  rcases hu with rfl | rfl | rfl | rfl <;> rfl
end Go.Proofs.YtepgfcjfdnakbaaDoor
/- Jobs, part 7: the latest days. -/
namespace Go.Proofs.YtepgfcjfdnakbaaDoor
open Go.RowKit Go.Joins

def ltP (nd : List Int) (s : Int) (F : Nat → Int) : Nat → Nat → Int
  | 0 => F
  | i + 1 => put (ltP nd s F i) (nd.getD i 0).toNat (min (ltP nd s F i (nd.getD i 0).toNat) s)
def stJ (xs : List Jb) (F : Nat → Int) (k : Nat) : Int := F k - (jg xs k).days
def ltR (xs : List Jb) (F : Nat → Int) (k : Nat) : Nat → Int := put (ltP (jg xs k).needs (stJ xs F k) F (jg xs k).needs.length) k (stJ xs F k)
def ltA (xs : List Jb) : Nat → Nat → Int
  | 0 => fun _ => allD xs xs.length
  | j + 1 => ltR xs (ltA xs j) (xs.length - 1 - j)
def late (xs : List Jb) : Nat → Int := ltA xs xs.length
theorem ltP_ge {nd : List Int} {s : Int} {F : Nat → Int} {k : Nat} (h : ∀ i, i < nd.length → (nd.getD i 0).toNat < k) : ∀ i, i ≤ nd.length → ∀ x, k ≤ x → ltP nd s F i x = F x
  | 0, _, _, _ => rfl
  | i + 1, hi, x, hx => by
    have := h i (by omega)
    show put _ _ _ x = _
    unfold put
    rw [if_neg (by omega)]
    exact ltP_ge h i (by omega) x hx
theorem ltP_bd {nd : List Int} {s lo : Int} {F : Nat → Int} (h : ∀ x, lo ≤ F x ∧ F x ≤ 400) (hs : lo ≤ s) : ∀ i x, lo ≤ ltP nd s F i x ∧ ltP nd s F i x ≤ 400
  | 0, x => h x
  | i + 1, x => by
    have h1 := ltP_bd (nd := nd) h hs i x
    have h2 := ltP_bd (nd := nd) h hs i (nd.getD i 0).toNat
    show lo ≤ put _ _ _ x ∧ put _ _ _ x ≤ 400
    unfold put
    by_cases e : x = (nd.getD i 0).toNat
    · rw [if_pos e]; omega
    · rw [if_neg e]; exact h1
theorem ltA_bd {xs : List Jb} (h : OkJ xs) : ∀ j, j ≤ xs.length → ∀ x, -(60 * (j : Int)) ≤ ltA xs j x ∧ ltA xs j x ≤ 400
  | 0, _, x => by
    have h1 := allD_bd h xs.length (Nat.le_refl _)
    have h2 := h.sum
    show -(60 * ((0 : Nat) : Int)) ≤ allD xs xs.length ∧ allD xs xs.length ≤ 400
    omega
  | j + 1, hj, x => by
    have h1 := ltA_bd h j (by omega)
    have h2 := h.days (xs.length - 1 - j) (by omega)
    have h3 := h1 (xs.length - 1 - j)
    have h4 : -(60 * ((j + 1 : Nat) : Int)) ≤ stJ xs (ltA xs j) (xs.length - 1 - j) := by unfold stJ; omega
    have h5 := ltP_bd (nd := (jg xs (xs.length - 1 - j)).needs) (s := stJ xs (ltA xs j) (xs.length - 1 - j)) (lo := -(60 * ((j + 1 : Nat) : Int))) (F := ltA xs j) (fun x => ⟨by have := (h1 x).1; omega, (h1 x).2⟩) h4 (jg xs (xs.length - 1 - j)).needs.length x
    show _ ≤ put _ _ _ x ∧ put _ _ _ x ≤ 400
    unfold put
    by_cases e : x = xs.length - 1 - j
    · rw [if_pos e]; refine ⟨h4, ?_⟩; unfold stJ; omega
    · rw [if_neg e]; exact h5
theorem late_bd {xs : List Jb} (h : OkJ xs) (x : Nat) : -1800 ≤ late xs x ∧ late xs x ≤ 400 := by
  have h1 := ltA_bd h xs.length (Nat.le_refl _) x
  have h2 := h.len
  unfold late
  omega
def filA (f g : Nat → Int) (k : Nat) : Nat → Int := fun x => if x < k then f x else g x
theorem filA_put (n : Nat) (f g : Nat → Int) (k : Nat) : tab n (put (filA f g k) k (f k)) = tab n (filA f g (k + 1)) := tab_congr fun x _ => by
  unfold put filA
  by_cases e : x = k
  · subst e; rw [if_pos rfl, if_pos (by omega)]
  · rw [if_neg e]
    by_cases h : x < k
    · rw [if_pos h, if_pos (by omega)]
    · rw [if_neg h, if_neg (by omega)]
theorem filA_zero (n : Nat) (f g : Nat → Int) : tab n g = tab n (filA f g 0) := tab_congr fun x _ => by unfold filA; rw [if_neg (by omega)]
theorem filA_all (n : Nat) (f g : Nat → Int) : tab n (filA f g n) = tab n f := tab_congr fun x h => by unfold filA; rw [if_pos h]
/-- the program's table: places up to k still lack their days -/
def gI (xs : List Jb) (k : Nat) (G : Nat → Int) : Nat → Int := fun x => if x < k then G x - (jg xs x).days else G x
theorem put_same (f : Nat → Int) (a : Nat) (y : Int) : put f a y a = y := by unfold put; rw [if_pos rfl]
theorem put_other (f : Nat → Int) {a x : Nat} (y : Int) (h : x ≠ a) : put f a y x = f x := by unfold put; rw [if_neg h]
theorem gI_lt {xs : List Jb} {k x : Nat} {G : Nat → Int} (h : x < k) : gI xs k G x = G x - (jg xs x).days := by unfold gI; rw [if_pos h]
theorem gI_ge {xs : List Jb} {k x : Nat} {G : Nat → Int} (h : ¬ x < k) : gI xs k G x = G x := by unfold gI; rw [if_neg h]
theorem gI_step {xs : List Jb} {k p : Nat} {G : Nat → Int} {s : Int} (n : Nat) (hp : p < k) : tab n (put (gI xs k G) p (min (G p - (jg xs p).days) (s - (jg xs p).days))) = tab n (gI xs k (put G p (min (G p) s))) := tab_congr fun x _ => by
  by_cases e : x = p
  · subst e; rw [put_same, gI_lt hp, put_same]; omega
  · rw [put_other _ _ e]
    by_cases h : x < k
    · rw [gI_lt h, gI_lt h, put_other _ _ e]
    · rw [gI_ge h, gI_ge h, put_other _ _ e]
theorem gI_row {xs : List Jb} {k : Nat} {G : Nat → Int} {s : Int} (n : Nat) (hs : G k - (jg xs k).days = s) : tab n (gI xs (k + 1) G) = tab n (gI xs k (put G k s)) := tab_congr fun x _ => by
  by_cases e : x = k
  · subst e; rw [gI_lt (by omega), gI_ge (by omega), put_same]; exact hs
  · by_cases h : x < k
    · rw [gI_lt (by omega), gI_lt h, put_other _ _ e]
    · rw [gI_ge (by omega), gI_ge h, put_other _ _ e]
/-- the row of a valid job's needs -/
theorem nd_lt {xs : List Jb} (h : OkJ xs) {k : Nat} (hk : k < xs.length) : ∀ i, i < (jg xs k).needs.length → ((jg xs k).needs.getD i 0).toNat < k := fun i hi => by
  obtain ⟨p, hp, he, _⟩ := nd_at h hk hi
  rw [he, Int.toNat_natCast]
  exact hp
set_option maxRecDepth 100000 in
set_option maxHeartbeats 3200000 in
theorem l22Late_any (B : Nat) (v : Value) (xs : List Jb) (w : World) (h : RdJ w B v xs) (hB : B ≤ w.heap.size) (hk : OkJ xs) (hz : szJ xs) :
    Calls Tryd.prog 82 #[v] w (RetTb xs.length (late xs) w) := by
  have HC := Lib.hid (l22Early_any B v xs w h hB hk hz)
  have H := Lib.hid h
  have HK := Lib.hid hk
  have HZ := Lib.hid hz
  have hl30 := hk.len
  have hab := allD_bd hk xs.length (Nat.le_refl _)
  obtain ⟨A, c, rfl⟩ := h.slice
  have hwn : IntKind.i64.wrap ((xs.length : Int) - 1) = (xs.length : Int) - 1 := IntWalk.i64_in _ (by omega)
  clear h hk hz
  go_enter Tryd.func82, Tryd.ntmps82
  go_wp2_with fail
  refine (HC.out).mono ?_; rintro e w2 ⟨v2, rfl, ho2, hb2⟩
  have Hb2 := Lib.hid hb2
  obtain ⟨A2, c2, rfl⟩ := own_sl ho2
  obtain ⟨w3, hmk, hon, hbn⟩ := mk_ints xs.length (by omega) w2
  rw [filA_zero xs.length (fun _ => allD xs xs.length)] at hon
  have Hon := Lib.hid hon
  have Hbn := Lib.hid (hb2.trans (hbn.mono hb2.size))
  have Hal := Lib.hid (show ∀ x, ltA xs 0 x = allD xs xs.length from fun _ => rfl)
  clear hb2 hon hbn HC ho2
  generalize allD xs xs.length = all at *
  go_wp2_with fail
  clear hmk
  go_loopw [21] (fun i wr => ∃ k : Nat, k ≤ xs.length ∧ i = .int .i64 (k : Int) ∧ wr.ownsRow w2.heap.size 2 1 (.slice (some ⟨w2.heap.size, 0, none⟩) xs.length xs.length) xs.length (tab xs.length (filA (fun _ => all) (fun _ => 0) k)) ∧ Below w.heap.size w wr) (fun i _ => xs.length - (intOf i).toNat)
  case atStart => exact ⟨0, Nat.zero_le _, rfl, Hon.out, Hbn.out⟩
  case round =>
    obtain ⟨k, hk, rfl, hown, hbl⟩ := hrel
    clear Hon Hbn
    by_cases hlt : k < xs.length
    · have hlt' : (k : Int) < (xs.length : Int) := by omega
      obtain ⟨n0, n1⟩ := own_cellI hown k hlt
      have hst := (hown.stored k (.int .i64 all)).1
      rw [tab_set, filA_put xs.length (fun _ => all)] at hst
      have Hst := Lib.hid hst
      have Hb4 := Lib.hid (hbl.setCell (p := ⟨w2.heap.size, k, none⟩) Hb2.out.size (.int .i64 all))
      clear hst hown hbl
      go_wp2_with fail
      go_roundw
      case rel => exact ⟨k + 1, by omega, by go_num, Hst.out, Hb4.out⟩
      case measure => first | (simp [intOf]; done) | (simp [intOf]; omega)
    · obtain rfl : k = xs.length := by omega
      have hlt' : ¬ ((xs.length : Int) < (xs.length : Int)) := by omega
      rw [filA_all, ← tab_congr (fun x _ => Hal.out x)] at hown
      have Hown := Lib.hid hown
      have Hbl := Lib.hid hbl
      clear hown hbl Hal
      go_wp2_with fail
      clear hwn
      go_loopw [7] (fun i wr => ∃ m j : Nat, m + j = xs.length ∧ i = .int .i64 ((m : Int) - 1) ∧ wr.ownsRow w2.heap.size 2 1 (.slice (some ⟨w2.heap.size, 0, none⟩) xs.length xs.length) xs.length (tab xs.length (ltA xs j)) ∧ Below w.heap.size w wr) (fun i _ => (intOf i + 1).toNat)
      case atStart => exact ⟨xs.length, 0, rfl, rfl, Hown.out, Hbl.out⟩
      case round =>
        clear Hown Hbl
        obtain ⟨m, j, hmj, rfl, hown, hbl⟩ := hrel
        by_cases hm : m = 0
        · subst hm
          obtain rfl : j = xs.length := by omega
          have hm0 : ¬ ((0 : Int) ≤ ((0 : Nat) : Int) - 1) := by omega
          have Hown := Lib.hid hown
          have Hbl := Lib.hid hbl
          clear hown hbl
          go_wp2_with fail
          go_ret
          exact ⟨_, rfl, ownsRow_le Hown.out Hb2.out.size, Hbl.out⟩
        · obtain ⟨k, rfl⟩ : ∃ k, m = k + 1 := ⟨m - 1, by omega⟩
          have ek : ((k + 1 : Nat) : Int) - 1 = (k : Int) := by omega
          rw [ek]
          have hkl : k < xs.length := by omega
          have hkl' : (k : Int) < (xs.length : Int) := by omega
          have hk0 : (0 : Int) ≤ (k : Int) := by omega
          obtain ⟨gb, ob, A', c', hA, hat⟩ := (H.out.below (hbl.mono hB)).at k hkl
          subst hA
          obtain ⟨hsz, hsn⟩ := HZ.out k hkl
          have y3 := hat.c3
          have t1 := hat.c1
          have hnd := hat.needs
          obtain ⟨n0, n1⟩ := own_cellI hown k hkl
          have hFb := ltA_bd HK.out j (by omega)
          have hFk := hFb k
          have hdk := HK.out.days k hkl
          have hws : IntKind.i64.wrap (ltA xs j k - (jg xs k).days) = stJ xs (ltA xs j) k := IntWalk.i64_in _ (by omega)
          have hsb : -1860 ≤ stJ xs (ltA xs j) k ∧ stJ xs (ltA xs j) k ≤ 400 := by unfold stJ; omega
          have HPb := Lib.hid (fun i x => ltP_bd (nd := (jg xs k).needs) (s := stJ xs (ltA xs j) k) (lo := -1860) (F := ltA xs j) (fun x => by have := hFb x; omega) hsb.1 i x)
          have HRl := Lib.hid (show ltA xs (j + 1) = put (ltP (jg xs k).needs (stJ xs (ltA xs j) k) (ltA xs j) (jg xs k).needs.length) k (stJ xs (ltA xs j) k) from by
            show ltR xs (ltA xs j) (xs.length - 1 - j) = _
            rw [show xs.length - 1 - j = k by omega]; rfl)
          have Hown := Lib.hid hown
          have Hbl := Lib.hid hbl
          have Hnd := Lib.hid (fun i hi => nd_at HK.out (k := k) (i := i) hkl hi)
          clear hown hbl hat hFb ek hm
          generalize stJ xs (ltA xs j) k = st at *
          generalize ltA xs j k = fk at *
          generalize (jg xs k).days = dk at *
          generalize hnd0 : (jg xs k).needs = nd at *
          have Hn0 := Lib.hid hnd0
          clear hnd0
          obtain ⟨nl, hnl⟩ : ∃ z, nd.length = z := ⟨_, rfl⟩
          have Hnl := Lib.hid hnl
          rw [hnl] at y3 hnd hsn HRl
          have HRa := Lib.hid hnd
          clear hnl hnd
          go_wp2_with fail
          go_quiet (fail)
          have HbQ := Lib.hid (below_drewN Hbl.out nq)
          have HoQ := Lib.hid (World.ownsRow.drewN Hown.out nq)
          generalize wr.drewN nq = wq at *
          clear Hbl Hown y3 t1 n0 n1 HRa
          go_wp2_with fail
          go_loopw [9] (fun i wr => ∃ i' : Nat, i' ≤ nl ∧ i = .int .i64 (i' : Int) ∧ wr.ownsRow w2.heap.size 2 1 (.slice (some ⟨w2.heap.size, 0, none⟩) xs.length xs.length) xs.length (tab xs.length (ltP nd st (ltA xs j) i')) ∧ Below w.heap.size w wr) (fun i _ => nl - (intOf i).toNat)
          case atStart => exact ⟨0, Nat.zero_le _, rfl, HoQ.out, HbQ.out⟩
          case round =>
            obtain ⟨i, hi, rfl, hown, hbl⟩ := hrel
            clear HoQ HbQ
            obtain ⟨gb', ob', A4, c4, hA4, hat⟩ := (H.out.below (hbl.mono hB)).at k hkl
            injection hA4 with hA4
            injection hA4 with e1 e2
            subst e1 e2
            have y3 := hat.c3
            have hnd := hat.needs
            rw [Hn0.out, Hnl.out] at y3 hnd
            by_cases hil : i < nl
            · have hil' : (i : Int) < (nl : Int) := by omega
              have hid : i < nd.length := by rw [Hnl.out]; exact hil
              obtain ⟨b2, o2, hA2, _, hcc⟩ := rdI_at hnd Hnl.out (by omega)
              subst hA2
              have q1 := hcc i hid
              obtain ⟨p, hp, hge, hne⟩ := Hnd.out i hid
              rw [hne] at q1
              have hpl : (p : Int) < (xs.length : Int) := by omega
              obtain ⟨n0, n1⟩ := own_cellI hown p (by omega)
              have hbp := HPb.out i p
              have HMx := Lib.hid (fun wx => l00Min_c (ltP nd st (ltA xs j) i p) st wx)
              have hst := (hown.stored p (.int .i64 (min (ltP nd st (ltA xs j) i p) st))).1
              have he : put (ltP nd st (ltA xs j) i) p (min (ltP nd st (ltA xs j) i p) st) = ltP nd st (ltA xs j) (i + 1) := by
                show _ = put _ _ _
                rw [hge, Int.toNat_natCast]
              rw [tab_set, he] at hst
              have Hst := Lib.hid hst
              have Hb4 := Lib.hid (hbl.setCell (p := ⟨w2.heap.size, p, none⟩) Hb2.out.size (.int .i64 (min (ltP nd st (ltA xs j) i p) st)))
              clear hst hown hbl he hge hne hcc hnd hat
              generalize ltP nd st (ltA xs j) i p = fp at *
              go_wp2_with fail
              refine (HMx.out _).mono ?_; rintro e w1 ⟨rfl, rfl⟩
              go_wp2_with fail
              go_roundw
              case rel => exact ⟨i + 1, by omega, by go_num, Hst.out, Hb4.out⟩
              case measure => first | (simp [intOf]; done) | (simp [intOf]; omega)
            · obtain rfl : nl = i := by omega
              have hil' : ¬ ((nl : Int) < (nl : Int)) := by omega
              obtain ⟨n0, n1⟩ := own_cellI hown k hkl
              have hst := (hown.stored k (.int .i64 st)).1
              rw [tab_set, ← HRl.out] at hst
              have Hst := Lib.hid hst
              have Hb4 := Lib.hid (hbl.setCell (p := ⟨w2.heap.size, k, none⟩) Hb2.out.size (.int .i64 st))
              have hwk : IntKind.i64.wrap ((k : Int) - 1) = (k : Int) - 1 := IntWalk.i64_in _ (by omega)
              have hbk := HPb.out nl k
              clear hst hown hbl hnd hat
              generalize ltP nd st (ltA xs j) nl k = fk2 at *
              go_wp2_with fail
              go_roundw
              case rel => exact ⟨k, j + 1, by omega, rfl, Hst.out, Hb4.out⟩
              case measure => first | (simp [intOf]; done) | (simp [intOf]; omega)
end Go.Proofs.YtepgfcjfdnakbaaDoor
/- Jobs, part 8: the latest days, the program. -/
namespace Go.Proofs.YtepgfcjfdnakbaaDoor
open Go.RowKit Go.Joins

set_option maxRecDepth 100000 in
set_option maxHeartbeats 3200000 in
theorem latest_any (B : Nat) (v : Value) (xs : List Jb) (w : World) (h : RdJ w B v xs) (hB : B ≤ w.heap.size) (hk : OkJ xs) (hz : szJ xs) :
    Calls Tryd.prog 81 #[v] w (RetTb xs.length (late xs) w) := by
  have HC := Lib.hid (daysN_any B v xs w h hB hk hz)
  have H := Lib.hid h
  have HK := Lib.hid hk
  have HZ := Lib.hid hz
  have hl30 := hk.len
  have hab := allD_bd hk xs.length (Nat.le_refl _)
  have hs4 := hk.sum
  obtain ⟨A, c, rfl⟩ := h.slice
  have hwn : IntKind.i64.wrap ((xs.length : Int) - 1) = (xs.length : Int) - 1 := IntWalk.i64_in _ (by omega)
  clear h hk hz
  go_enter Tryd.func81, Tryd.ntmps81
  go_wp2_with fail
  refine (HC.out).mono ?_; rintro e w2 ⟨rfl, hb2⟩
  have Hb2 := Lib.hid hb2
  obtain ⟨w3, hmk, hon, hbn⟩ := mk_ints xs.length (by omega) w2
  rw [filA_zero xs.length (fun x => allD xs xs.length - (jg xs x).days)] at hon
  have Hon := Lib.hid hon
  have Hbn := Lib.hid (hb2.trans (hbn.mono hb2.size))
  have Hal := Lib.hid (show ∀ x, ltA xs 0 x = allD xs xs.length from fun _ => rfl)
  clear hb2 hon hbn HC
  generalize allD xs xs.length = all at *
  go_wp2_with fail
  clear hmk
  go_loopw [17] (fun i wr => ∃ k : Nat, k ≤ xs.length ∧ i = .int .i64 (k : Int) ∧ wr.ownsRow w2.heap.size 2 1 (.slice (some ⟨w2.heap.size, 0, none⟩) xs.length xs.length) xs.length (tab xs.length (filA (fun x => all - (jg xs x).days) (fun _ => 0) k)) ∧ Below w.heap.size w wr) (fun i _ => xs.length - (intOf i).toNat)
  case atStart => exact ⟨0, Nat.zero_le _, rfl, Hon.out, Hbn.out⟩
  case round =>
    obtain ⟨k, hk, rfl, hown, hbl⟩ := hrel
    clear Hon Hbn
    by_cases hlt : k < xs.length
    · have hlt' : (k : Int) < (xs.length : Int) := by omega
      obtain ⟨gb, ob, A', c', hA, hat⟩ := (H.out.below (hbl.mono hB)).at k hlt
      subst hA
      have hdk := HK.out.days k hlt
      obtain ⟨_, p0, p1, p2, p3, _⟩ := hat
      have Hfp := Lib.hid (filA_put xs.length (fun x => all - (jg xs x).days) (fun _ => 0) k)
      obtain ⟨dk, hdk0⟩ : ∃ z, (jg xs k).days = z := ⟨_, rfl⟩
      rw [hdk0] at hdk p1
      have Hfp2 := Lib.hid (show tab xs.length (put (filA (fun x => all - (jg xs x).days) (fun _ => 0) k) k (all - dk)) = tab xs.length (filA (fun x => all - (jg xs x).days) (fun _ => 0) (k + 1)) from by rw [← hdk0]; exact Hfp.out)
      clear hdk0 Hfp
      generalize (jg xs k).nm = nm at *
      generalize (jg xs k).cost = cc at *
      generalize (jg xs k).needs.length = nl at *
      have hba := (Below.refl wr.heap.size wr).alloc (Nat.le_refl _) (.cells #[.string nm, .int .i64 dk, .int .i64 cc, .slice A' nl c'] 62)
      have hbl2 := hbl.trans (hba.mono hbl.size)
      have HCa := Lib.hid (heap_alloc_new wr (.cells #[.string nm, .int .i64 dk, .int .i64 cc, .slice A' nl c'] 62))
      have hown2 := own_below hown hba
      have hws : IntKind.i64.wrap (all - dk) = all - dk := IntWalk.i64_in _ (by omega)
      clear hba hown hbl
      go_upto_region 6 with (fail)
      generalize wr.alloc (.cells #[.string nm, .int .i64 dk, .int .i64 cc, .slice A' nl c'] 62) = wa at *
      generalize wr.heap.size = ga at *
      clear p0 p1 p2 p3
      obtain ⟨y0, y1, y2, y3⟩ := cells4 HCa.out
      obtain ⟨n0, n1⟩ := own_cellI hown2 k hlt
      have hst := (hown2.stored k (.int .i64 (all - dk))).1
      rw [tab_set, Hfp2.out] at hst
      have Hst := Lib.hid hst
      have Hb4 := Lib.hid (hbl2.setCell (p := ⟨w2.heap.size, k, none⟩) Hb2.out.size (.int .i64 (all - dk)))
      clear hst hown2 hbl2
      go_wp2_with fail
      go_roundw
      case rel => exact ⟨k + 1, by omega, by go_num, Hst.out, Hb4.out⟩
      case measure => first | (simp [intOf]; done) | (simp [intOf]; omega)
    · obtain rfl : k = xs.length := by omega
      have hlt' : ¬ ((xs.length : Int) < (xs.length : Int)) := by omega
      have e0 : tab xs.length (filA (fun x => all - (jg xs x).days) (fun _ => 0) xs.length) = tab xs.length (gI xs xs.length (ltA xs 0)) := tab_congr fun x hx => by
        rw [gI_lt hx, Hal.out]; unfold filA; rw [if_pos hx]
      rw [e0] at hown
      have Hown := Lib.hid hown
      have Hbl := Lib.hid hbl
      clear hown hbl Hal e0
      go_wp2_with fail
      clear hwn
      go_loopw [7] (fun i wr => ∃ m j : Nat, m + j = xs.length ∧ i = .int .i64 ((m : Int) - 1) ∧ wr.ownsRow w2.heap.size 2 1 (.slice (some ⟨w2.heap.size, 0, none⟩) xs.length xs.length) xs.length (tab xs.length (gI xs m (ltA xs j))) ∧ Below w.heap.size w wr) (fun i _ => (intOf i + 1).toNat)
      case atStart => exact ⟨xs.length, 0, rfl, rfl, Hown.out, Hbl.out⟩
      case round =>
        clear Hown Hbl
        obtain ⟨m, j, hmj, rfl, hown, hbl⟩ := hrel
        by_cases hm : m = 0
        · subst hm
          obtain rfl : j = xs.length := by omega
          have hm0 : ¬ ((0 : Int) ≤ ((0 : Nat) : Int) - 1) := by omega
          rw [tab_congr (fun x _ => gI_ge (show ¬ x < 0 by omega))] at hown
          have Hown := Lib.hid hown
          have Hbl := Lib.hid hbl
          clear hown hbl
          go_wp2_with fail
          go_ret
          exact ⟨_, rfl, ownsRow_le Hown.out Hb2.out.size, Hbl.out⟩
        · obtain ⟨k, rfl⟩ : ∃ k, m = k + 1 := ⟨m - 1, by omega⟩
          have ek : ((k + 1 : Nat) : Int) - 1 = (k : Int) := by omega
          rw [ek]
          have hkl : k < xs.length := by omega
          have hkl' : (k : Int) < (xs.length : Int) := by omega
          have hk0 : (0 : Int) ≤ (k : Int) := by omega
          obtain ⟨gb, ob, A', c', hA, hat0⟩ := H.out.at k hkl
          subst hA
          have HA0 := Lib.hid hat0
          have hat := hat0.below (hbl.mono hB)
          clear hat0
          obtain ⟨hsz, hsn⟩ := HZ.out k hkl
          have y3 := hat.c3
          have hnd := hat.needs
          have hFb := ltA_bd HK.out j (by omega)
          have hFk := hFb k
          have hdk := HK.out.days k hkl
          have hsb : -1860 ≤ stJ xs (ltA xs j) k ∧ stJ xs (ltA xs j) k ≤ 400 := by unfold stJ; omega
          have HPb := Lib.hid (fun i x => ltP_bd (nd := (jg xs k).needs) (s := stJ xs (ltA xs j) k) (lo := -1860) (F := ltA xs j) (fun x => by have := hFb x; omega) hsb.1 i x)
          have HPk := Lib.hid (fun i hi => (ltP_ge (nd := (jg xs k).needs) (s := stJ xs (ltA xs j) k) (F := ltA xs j) (nd_lt HK.out hkl) i hi k (Nat.le_refl _)))
          have Hsk := Lib.hid (show ltA xs j k - (jg xs k).days = stJ xs (ltA xs j) k from rfl)
          have HRl := Lib.hid (show ltA xs (j + 1) = put (ltP (jg xs k).needs (stJ xs (ltA xs j) k) (ltA xs j) (jg xs k).needs.length) k (stJ xs (ltA xs j) k) from by
            show ltR xs (ltA xs j) (xs.length - 1 - j) = _
            rw [show xs.length - 1 - j = k by omega]; rfl)
          have Hown := Lib.hid hown
          have Hbl := Lib.hid hbl
          have Hnd := Lib.hid (fun i hi => nd_at HK.out (k := k) (i := i) hkl hi)
          clear hown hbl hat hFb ek hm hFk
          generalize stJ xs (ltA xs j) k = st at *
          generalize hnd0 : (jg xs k).needs = nd at *
          have Hn0 := Lib.hid hnd0
          clear hnd0
          obtain ⟨nl, hnl⟩ : ∃ z, nd.length = z := ⟨_, rfl⟩
          have Hnl := Lib.hid hnl
          rw [hnl] at y3 hnd hsn HRl HPk
          have HRa := Lib.hid hnd
          clear hnl hnd
          go_wp2_with fail
          clear y3
          go_loopw [43] (fun i wr => ∃ i' : Nat, i' ≤ nl ∧ i = .int .i64 (i' : Int) ∧ wr.ownsRow w2.heap.size 2 1 (.slice (some ⟨w2.heap.size, 0, none⟩) xs.length xs.length) xs.length (tab xs.length (gI xs (k + 1) (ltP nd st (ltA xs j) i'))) ∧ Below w.heap.size w wr) (fun i _ => nl - (intOf i).toNat)
          case atStart => exact ⟨0, Nat.zero_le _, rfl, Hown.out, Hbl.out⟩
          case round =>
            clear HRa Hown Hbl
            obtain ⟨i, hi, rfl, hown, hbl⟩ := hrel
            have hat := HA0.out.below (hbl.mono hB)
            have hnd := hat.needs
            rw [Hn0.out, Hnl.out] at hnd
            by_cases hil : i < nl
            · have hil' : (i : Int) < (nl : Int) := by omega
              have hid : i < nd.length := by rw [Hnl.out]; exact hil
              obtain ⟨b2, o2, hA2, _, hcc⟩ := rdI_at hnd Hnl.out (by omega)
              subst hA2
              have q1 := hcc i hid
              obtain ⟨p, hp, hge, hne⟩ := Hnd.out i hid
              rw [hne] at q1
              have hpl : (p : Int) < (xs.length : Int) := by omega
              obtain ⟨gb', ob', A4, c4, hA4, hat4⟩ := (H.out.below (hbl.mono hB)).at p (by omega)
              injection hA4 with hA4
              injection hA4 with e1 e2
              subst e1 e2
              have t1 := hat4.c1
              have hdp := HK.out.days p (by omega)
              obtain ⟨n0, n1⟩ := own_cellI hown p (by omega)
              obtain ⟨k0, k1⟩ := own_cellI hown k hkl
              rw [gI_lt (by omega)] at n0 k0
              rw [HPk.out i (by omega), Hsk.out] at k0
              have hbp := HPb.out i p
              have hws : IntKind.i64.wrap (st - (jg xs p).days) = st - (jg xs p).days := IntWalk.i64_in _ (by omega)
              have hV : min (ltP nd st (ltA xs j) i p - (jg xs p).days) (st - (jg xs p).days) = if st < ltP nd st (ltA xs j) i p then st - (jg xs p).days else ltP nd st (ltA xs j) i p - (jg xs p).days := by split <;> omega
              have hst := (hown.stored p (.int .i64 (min (ltP nd st (ltA xs j) i p - (jg xs p).days) (st - (jg xs p).days)))).1
              have he : put (ltP nd st (ltA xs j) i) p (min (ltP nd st (ltA xs j) i p) st) = ltP nd st (ltA xs j) (i + 1) := by
                show _ = put _ _ _
                rw [hge, Int.toNat_natCast]
              rw [tab_set, gI_step xs.length (show p < k + 1 by omega), he] at hst
              have hb4 := (hbl.setCell (p := ⟨w2.heap.size, p, none⟩) Hb2.out.size (.int .i64 (min (ltP nd st (ltA xs j) i p - (jg xs p).days) (st - (jg xs p).days)))).drew
              rw [hV] at hst hb4
              clear hV
              obtain ⟨wx, hwx⟩ : ∃ z, (wr.setCell ⟨w2.heap.size, p, none⟩ (.int .i64 (if st < ltP nd st (ltA xs j) i p then st - (jg xs p).days else ltP nd st (ltA xs j) i p - (jg xs p).days))).drew = z := ⟨_, rfl⟩
              have hst2 := hst.drew
              rw [hwx] at hst2 hb4
              have Hst := Lib.hid hst2
              have Hb4 := Lib.hid hb4
              clear hst hst2 hb4 hown hbl he hge hne hcc hnd hat hat4
              generalize ltP nd st (ltA xs j) i p = fp at *
              generalize (jg xs p).days = dp at *
              go_wp2_with fail
              go_region
              go_wp2_with fail
              go_roundw
              case rel => exact ⟨i + 1, by omega, by go_num, Hst.out, Hb4.out⟩
              case measure => first | (simp [intOf]; done) | (simp [intOf]; omega)
            · obtain rfl : nl = i := by omega
              have hil' : ¬ ((nl : Int) < (nl : Int)) := by omega
              rw [gI_row xs.length (show ltP nd st (ltA xs j) nl k - (jg xs k).days = st from by rw [HPk.out nl (by omega)]; exact Hsk.out), ← HRl.out] at hown
              have Hown := Lib.hid hown
              have Hbl := Lib.hid hbl
              have hwk : IntKind.i64.wrap ((k : Int) - 1) = (k : Int) - 1 := IntWalk.i64_in _ (by omega)
              clear hown hbl hnd hat
              go_wp2_with fail
              go_roundw
              case rel => exact ⟨k, j + 1, by omega, rfl, Hown.out, Hbl.out⟩
              case measure => first | (simp [intOf]; done) | (simp [intOf]; omega)
end Go.Proofs.YtepgfcjfdnakbaaDoor
/- Jobs, texts and laws, part 4: SameJobs, both sides (gen_jc4.py). -/
namespace Go.Proofs.YtepgfcjfdnakbaaDoor
open Go.RowKit Go.Joins

theorem take_eqJ {xs ys : List Jb} (k : Nat) (hx : k < xs.length) (hy : k < ys.length) (h0 : xs.take k = ys.take k) (h : jg xs k = jg ys k) : xs.take (k + 1) = ys.take (k + 1) := by
  rw [jg_at hx, jg_at hy] at h
  rw [List.take_succ_eq_append_getElem hx, List.take_succ_eq_append_getElem hy, h0, h]
theorem ne_ofJ {xs ys : List Jb} (k : Nat) (hx : k < xs.length) (hy : k < ys.length) (h : jg xs k ≠ jg ys k) : decide (xs = ys) = false :=
  decide_eq_false fun e => h (by subst e; rfl)
set_option maxRecDepth 100000 in
set_option maxHeartbeats 3200000 in
theorem SameJI_any (B1 B2 : Nat) (v1 v2 : Value) (xs ys : List Jb) (w : World) (h1 : RdJ w B1 v1 xs) (h2 : RdJ w B2 v2 ys) (hB1 : B1 ≤ w.heap.size) (hB2 : B2 ≤ w.heap.size) (hx : xs.length ≤ 100000) (hz : szJ xs) :
    Calls Tryd.prog 48 #[v1, v2] w fun e w' => e = .returned (.bool (decide (xs = ys))) ∧ Below w.heap.size w w' := by
  have H1 := Lib.hid h1
  have H2 := Lib.hid h2
  have HZ := Lib.hid hz
  obtain ⟨A1, c1, rfl⟩ := h1.slice
  obtain ⟨A2, c2, rfl⟩ := h2.slice
  clear h1 h2 hz
  by_cases hl : xs.length = ys.length
  · have hl' : ((xs.length : Int) == (ys.length : Int)) = true := by rw [beq_iff_eq]; omega
    have hl2 : ((xs.length : Int) != (ys.length : Int)) = false := by simp [bne, hl']
    have Hl := Lib.hid hl; clear hl
    go_enter Tryd.func48, Tryd.ntmps48
    go_wp2_with fail
    go_loopw [14] (fun i wr => ∃ k : Nat, k ≤ xs.length ∧ i = .int .i64 (k : Int) ∧ xs.take k = ys.take k ∧ Below w.heap.size w wr) (fun i _ => xs.length - (intOf i).toNat)
    case atStart => exact ⟨0, Nat.zero_le _, rfl, rfl, Below.refl _ _⟩
    case round =>
      obtain ⟨k, hk, rfl, htk, hbl⟩ := hrel
      have Htk := Lib.hid htk
      clear htk
      by_cases hlt : k < xs.length
      · have hlt' : (k : Int) < (xs.length : Int) := by omega
        have hlt2 : (k : Int) < (ys.length : Int) := by have := Hl.out; omega
        have hky : k < ys.length := by have := Hl.out; omega
        obtain ⟨b1, o1, A5, c5, hA1, hE1⟩ := (H1.out.below (hbl.mono hB1)).at k hlt
        obtain ⟨b2, o2, A6, c6, hA2, hE2⟩ := (H2.out.below (hbl.mono hB2)).at k hky
        subst hA1 hA2
        have hkz : (0 : Int) ≤ (k : Int) := by omega
        have Hst := Lib.hid (fun h => take_eqJ (xs := xs) (ys := ys) k hlt hky Htk.out h)
        have Hbad := Lib.hid (fun h => ne_ofJ (xs := xs) (ys := ys) k hlt hky h)
        have HSz := Lib.hid (HZ.out k hlt).2
        generalize jg xs k = x at *
        generalize jg ys k = y at *
        obtain ⟨a, b, f, t⟩ := x
        obtain ⟨a2, b2', f2, t2⟩ := y
        obtain ⟨g1, p0, p1, p2, p3, p4⟩ := hE1
        obtain ⟨g2, q0, q1, q2, q3, q4⟩ := hE2
        dsimp only at p0 p1 p2 p3 p4 q0 q1 q2 q3 q4 HSz
        have HP4 := Lib.hid p4
        have HQ4 := Lib.hid q4
        have Hbl := Lib.hid hbl
        clear p4 q4 hbl
        have hba := (Below.refl wr.heap.size wr).alloc (Nat.le_refl _) (.cells #[.string a, .int .i64 b, .int .i64 f, .slice A5 t.length c5] 62)
        have HCa := Lib.hid (heap_alloc_new wr (.cells #[.string a, .int .i64 b, .int .i64 f, .slice A5 t.length c5] 62))
        have hz5 := Hbl.out.size
        have g1' : b1 < wr.heap.size := by omega
        have g2' : b2 < wr.heap.size := by omega
        have r0 := (hba.cell (p := ⟨b2, o2 + k * 4, none⟩) g2').trans q0
        have r1 := (hba.cell (p := ⟨b2, o2 + k * 4 + 1, none⟩) g2').trans q1
        have r2 := (hba.cell (p := ⟨b2, o2 + k * 4 + 2, none⟩) g2').trans q2
        have r3 := (hba.cell (p := ⟨b2, o2 + k * 4 + 3, none⟩) g2').trans q3
        replace HP4 := Lib.hid (HP4.out.below (hba.mono (by omega)))
        replace HQ4 := Lib.hid (HQ4.out.below (hba.mono (by omega)))
        replace Hbl := Lib.hid (Hbl.out.trans (hba.mono hz5))
        clear hba q0 q1 q2 q3
        go_upto_region 6 with (fail)
        generalize wr.alloc (.cells #[.string a, .int .i64 b, .int .i64 f, .slice A5 t.length c5] 62) = wa at *
        generalize wr.heap.size = ga at *
        clear p0 p1 p2 p3
        obtain ⟨y0, y1, y2, y3⟩ := cells4 HCa.out
        clear HCa
        have HS := Lib.hid (fun q => sameNumL_any B1 B2 (.slice A5 t.length c5) (.slice A6 t2.length c6) t t2 (wa.drewN q) (HP4.out.drewN q) (HQ4.out.drewN q) HSz.out)
        replace Hbl := Lib.hid (fun q => below_drewN Hbl.out q)
        clear HP4 HQ4 HSz
        by_cases he : (⟨a, b, f, t⟩ : Jb) = ⟨a2, b2', f2, t2⟩
        · have Hs2 := Lib.hid (Hst.out he)
          injection he with e1 e2 e3 e4
          subst e1 e2 e3 e4
          rw [decide_eq_true rfl] at HS
          clear Hst Hbad
          go_quiet ((go_at_call 89; exact Calls.quiet_of (HS.out _)))
          go_wp2_with fail
          go_roundw
          case rel => exact ⟨k + 1, by omega, by go_num, Hs2.out, Hbl.out _⟩
          case measure => first | (simp [intOf]; done) | (simp [intOf]; omega)
        · have Hb2 := Lib.hid (Hbad.out he)
          clear Hst Hbad
          by_cases h1 : a = a2
          · subst h1
            by_cases h2 : b = b2'
            · subst h2
              by_cases h3 : f = f2
              · subst h3
                have h4 : decide (t = t2) = false := decide_eq_false fun h => he (by rw [h])
                rw [h4] at HS
                clear h4 he
                go_quiet ((go_at_call 89; exact Calls.quiet_of (HS.out _)))
                go_wp2_with fail
                go_ret
                exact ⟨by rw [Hb2.out]; rfl, Hbl.out _⟩
              · have h4 : (f != f2) = true := bne_iff_ne.2 h3
                clear HS he h3 r3 y3
                go_quiet (fail)
                go_wp2_with fail
                go_ret
                exact ⟨by rw [Hb2.out]; rfl, Hbl.out _⟩
            · have h4 : (b != b2') = true := bne_iff_ne.2 h2
              clear HS he h2 r2 r3 y2 y3
              go_quiet (fail)
              go_wp2_with fail
              go_ret
              exact ⟨by rw [Hb2.out]; rfl, Hbl.out _⟩
          · have h4 : (a.toList == a2.toList) = false := beq_eq_false_iff_ne.2 fun h => h1 (ba_inj h)
            clear HS he
            go_quiet (fail)
            go_wp2_with fail
            go_ret
            exact ⟨by rw [Hb2.out]; rfl, Hbl.out _⟩
      · have hkk : k = xs.length := by omega
        subst hkk
        have hlt' : (xs.length : Int) ≤ (xs.length : Int) := Int.le_refl _
        have he : xs = ys := by
          have h := Htk.out
          have h3 := Hl.out
          rw [List.take_length, h3, List.take_length] at h
          exact h
        have He := Lib.hid (decide_eq_true he)
        have Hbl := Lib.hid hbl
        clear he hbl
        go_wp2_with fail
        go_ret
        exact ⟨by rw [He.out]; rfl, Hbl.out⟩
  · have hl' : ((xs.length : Int) == (ys.length : Int)) = false := by rw [beq_eq_false_iff_ne]; omega
    have hl2 : ((xs.length : Int) != (ys.length : Int)) = true := by simp [bne, hl']
    have He := Lib.hid (show decide (xs = ys) = false from decide_eq_false (fun h => hl (by rw [h])))
    clear hl
    go_enter Tryd.func48, Tryd.ntmps48
    go_wp2_with fail
    go_ret
    exact ⟨by rw [He.out]; rfl, Below.refl _ _⟩
set_option maxRecDepth 100000 in
set_option maxHeartbeats 3200000 in
theorem SameJS_any (B1 B2 : Nat) (v1 v2 : Value) (xs ys : List Jb) (w : World) (h1 : RdJ w B1 v1 xs) (h2 : RdJ w B2 v2 ys) (hB1 : B1 ≤ w.heap.size) (hB2 : B2 ≤ w.heap.size) (hx : xs.length ≤ 100000) (hz : szJ xs) :
    Calls Tryd.prog 47 #[v1, v2] w fun e w' => e = .returned (.bool (decide (xs = ys))) ∧ Below w.heap.size w w' := by
  have H1 := Lib.hid h1
  have H2 := Lib.hid h2
  have HZ := Lib.hid hz
  obtain ⟨A1, c1, rfl⟩ := h1.slice
  obtain ⟨A2, c2, rfl⟩ := h2.slice
  clear h1 h2 hz
  by_cases hl : xs.length = ys.length
  · have hl' : ((xs.length : Int) == (ys.length : Int)) = true := by rw [beq_iff_eq]; omega
    have hl2 : ((xs.length : Int) != (ys.length : Int)) = false := by simp [bne, hl']
    have Hl := Lib.hid hl; clear hl
    go_enter Tryd.func47, Tryd.ntmps47
    go_wp2_with fail
    go_loopw [5] (fun i wr => ∃ k : Nat, k ≤ xs.length ∧ i = .int .i64 (k : Int) ∧ xs.take k = ys.take k ∧ Below w.heap.size w wr) (fun i _ => xs.length - (intOf i).toNat)
    case atStart => exact ⟨0, Nat.zero_le _, rfl, rfl, Below.refl _ _⟩
    case round =>
      obtain ⟨k, hk, rfl, htk, hbl⟩ := hrel
      have Htk := Lib.hid htk
      clear htk
      by_cases hlt : k < xs.length
      · have hlt' : (k : Int) < (xs.length : Int) := by omega
        have hlt2 : (k : Int) < (ys.length : Int) := by have := Hl.out; omega
        have hky : k < ys.length := by have := Hl.out; omega
        obtain ⟨b1, o1, A5, c5, hA1, hE1⟩ := (H1.out.below (hbl.mono hB1)).at k hlt
        obtain ⟨b2, o2, A6, c6, hA2, hE2⟩ := (H2.out.below (hbl.mono hB2)).at k hky
        subst hA1 hA2
        have hkz : (0 : Int) ≤ (k : Int) := by omega
        have Hst := Lib.hid (fun h => take_eqJ (xs := xs) (ys := ys) k hlt hky Htk.out h)
        have Hbad := Lib.hid (fun h => ne_ofJ (xs := xs) (ys := ys) k hlt hky h)
        have HSz := Lib.hid (HZ.out k hlt).2
        generalize jg xs k = x at *
        generalize jg ys k = y at *
        obtain ⟨a, b, f, t⟩ := x
        obtain ⟨a2, b2', f2, t2⟩ := y
        obtain ⟨g1, p0, p1, p2, p3, p4⟩ := hE1
        obtain ⟨g2, q0, q1, q2, q3, q4⟩ := hE2
        dsimp only at p0 p1 p2 p3 p4 q0 q1 q2 q3 q4 HSz
        have HP4 := Lib.hid p4
        have HQ4 := Lib.hid q4
        have Hbl := Lib.hid hbl
        clear p4 q4 hbl
        have HS := Lib.hid (fun q => l00SameL_any B1 B2 (.slice A5 t.length c5) (.slice A6 t2.length c6) t t2 (wr.drewN q) (HP4.out.drewN q) (HQ4.out.drewN q) HSz.out)
        replace Hbl := Lib.hid (fun q => below_drewN Hbl.out q)
        clear HP4 HQ4 HSz
        by_cases he : (⟨a, b, f, t⟩ : Jb) = ⟨a2, b2', f2, t2⟩
        · have Hs2 := Lib.hid (Hst.out he)
          injection he with e1 e2 e3 e4
          subst e1 e2 e3 e4
          rw [decide_eq_true rfl] at HS
          clear Hst Hbad
          go_wp2_with fail
          go_quiet ((go_at_call 88; exact Calls.quiet_of (HS.out _)))
          go_wp2_with fail
          go_roundw
          case rel => exact ⟨k + 1, by omega, by go_num, Hs2.out, Hbl.out _⟩
          case measure => first | (simp [intOf]; done) | (simp [intOf]; omega)
        · have Hb2 := Lib.hid (Hbad.out he)
          clear Hst Hbad
          by_cases h1 : a = a2
          · subst h1
            by_cases h2 : b = b2'
            · subst h2
              by_cases h3 : f = f2
              · subst h3
                have h4 : decide (t = t2) = false := decide_eq_false fun h => he (by rw [h])
                rw [h4] at HS
                clear h4 he
                go_wp2_with fail
                go_quiet ((go_at_call 88; exact Calls.quiet_of (HS.out _)))
                go_wp2_with fail
                go_ret
                exact ⟨by rw [Hb2.out]; rfl, Hbl.out _⟩
              · have h4 : (f != f2) = true := bne_iff_ne.2 h3
                clear HS he h3 p3 q3
                go_wp2_with fail
                go_quiet (fail)
                go_wp2_with fail
                go_ret
                exact ⟨by rw [Hb2.out]; rfl, Hbl.out _⟩
            · have h4 : (b != b2') = true := bne_iff_ne.2 h2
              clear HS he h2 p2 p3 q2 q3
              go_wp2_with fail
              go_quiet (fail)
              go_wp2_with fail
              go_ret
              exact ⟨by rw [Hb2.out]; rfl, Hbl.out _⟩
          · have h4 : (a.toList == a2.toList) = false := beq_eq_false_iff_ne.2 fun h => h1 (ba_inj h)
            clear HS he
            go_wp2_with fail
            go_quiet (fail)
            go_wp2_with fail
            go_ret
            exact ⟨by rw [Hb2.out]; rfl, Hbl.out _⟩
      · have hkk : k = xs.length := by omega
        subst hkk
        have hlt' : (xs.length : Int) ≤ (xs.length : Int) := Int.le_refl _
        have he : xs = ys := by
          have h := Htk.out
          have h3 := Hl.out
          rw [List.take_length, h3, List.take_length] at h
          exact h
        have He := Lib.hid (decide_eq_true he)
        have Hbl := Lib.hid hbl
        clear he hbl
        go_wp2_with fail
        go_ret
        exact ⟨by rw [He.out]; rfl, Hbl.out⟩
  · have hl' : ((xs.length : Int) == (ys.length : Int)) = false := by rw [beq_eq_false_iff_ne]; omega
    have hl2 : ((xs.length : Int) != (ys.length : Int)) = true := by simp [bne, hl']
    have He := Lib.hid (show decide (xs = ys) = false from decide_eq_false (fun h => hl (by rw [h])))
    clear hl
    go_enter Tryd.func47, Tryd.ntmps47
    go_wp2_with fail
    go_ret
    exact ⟨by rw [He.out]; rfl, Below.refl _ _⟩
end Go.Proofs.YtepgfcjfdnakbaaDoor
/- Inventories, part 22: CutPiece of the program (gen_pc22.py). -/
namespace Go.Proofs.YtepgfcjfdnakbaaDoor
open Go.RowKit Go.Joins

/-- the marks behind m pieces of the list of what is under -/
def gnB (xs : List Pc) (k m : Nat) : Nat → Bool := fun i => decide (i = k) || decide (i ∈ (uL xs k xs.length).take m)
theorem gnB_zero (xs : List Pc) (k : Nat) : tabB xs.length (putB (fun _ => false) k true) = tabB xs.length (gnB xs k 0) := tabB_congr fun i _ => by
  unfold putB gnB
  by_cases h : i = k <;> simp [h]
theorem uL_at {xs : List Pc} {k m : Nat} (h : m < (uL xs k xs.length).length) : ∃ i, (uL xs k xs.length)[m]? = some i ∧ k < i ∧ i < xs.length ∧ und xs k i = true := by
  have hm := List.getElem_mem h
  have h2 := (List.mem_filter.1 hm)
  have h3 := List.mem_range.1 h2.1
  have h4 := h2.2
  simp only [Bool.and_eq_true, decide_eq_true_eq] at h4
  exact ⟨_, List.getElem?_eq_getElem h, h4.1, h3, h4.2⟩
theorem natV_at {l : List Nat} {m i : Nat} (h : l[m]? = some i) : (natV l)[m]? = some (.int .i64 (i : Int)) := by
  unfold natV
  rw [List.getElem?_map, h]
  rfl
theorem gnB_step {xs : List Pc} {k m i : Nat} (h : (uL xs k xs.length)[m]? = some i) : tabB xs.length (putB (gnB xs k m) i true) = tabB xs.length (gnB xs k (m + 1)) := tabB_congr fun j _ => by
  have e : (uL xs k xs.length).take (m + 1) = (uL xs k xs.length).take m ++ [i] := by rw [List.take_add_one, h]; rfl
  unfold putB gnB
  rw [e]
  by_cases hj : j = i
  · subst hj; simp
  · rw [if_neg hj]; simp [hj]
theorem gnB_end (xs : List Pc) (k : Nat) : tabB xs.length (gnB xs k (uL xs k xs.length).length) = tabB xs.length (und xs k) := tabB_congr fun i hi => by
  unfold gnB
  rw [List.take_length]
  by_cases h : i = k
  · subst h; rw [und_self]; simp
  · by_cases h2 : i < k
    · rw [und_lt xs h2]
      have : i ∉ uL xs k xs.length := fun hm => by
        have := (List.mem_filter.1 hm).2
        simp only [Bool.and_eq_true, decide_eq_true_eq] at this
        omega
      simp [h, this]
    · have hki : k < i := by omega
      have e : (i ∈ uL xs k xs.length) ↔ und xs k i = true := by
        unfold uL
        rw [List.mem_filter]
        simp [hi, hki]
      cases hu : und xs k i with
      | true => simp [h, e.2 hu]
      | false =>
        have : i ∉ uL xs k xs.length := fun hm => by rw [e.1 hm] at hu; cases hu
        simp [h, this]
abbrev zeroRow (n : Nat) : Obj := .cells (madeCells #[.int .i64 0] n) 2
theorem mk_intsA (n : Nat) (hn : n ≤ 1000) (w : World) : (Instr.makeSlice 29 (.int .i64 (n : Int)) (.int .i64 (n : Int))).run Tryd.prog w = .ok (.slice (some ⟨w.heap.size, 0, none⟩) n n) (w.alloc (zeroRow n)) ∧
    (w.alloc (zeroRow n)).ownsRow w.heap.size 2 1 (.slice (some ⟨w.heap.size, 0, none⟩) n n) n (tab n (fun _ => 0)) := by
  have h := run_make_row' (P := Tryd.prog) 29 2 (.int .i64 0) 8 Tryd.underlying29 infoD rfl .i64 .i64 n (by omega) (by omega) w
  obtain ⟨w', h2, h3, _⟩ := mk_ints n hn w
  have e := h.symm.trans h2
  simp only [Result.ok.injEq, true_and] at e
  exact ⟨h, by rw [← e] at h3; exact h3⟩
/-- a cell of a block that is none of the rows is written -/
theorem CuI.new2 {xs : List Pc} {k cu gU gN m m1 m2 : Nat} {w wr wn : World} {r : Value} (h : CuI xs k cu gU gN w wr r m m1) (ha : CuI xs k cu gU gN w wn r m m2) (i : Nat) (u : Value) : CuI xs k cu gU gN w (wn.setCell ⟨wr.heap.size, i, none⟩ u) r m m2 := by
  have h1 := (h.und.lt gU rfl).2
  have h2 := (h.nam.lt gN rfl).2
  refine ⟨ownsRow_setCell_other ha.und (a := ⟨wr.heap.size, i, none⟩) (fun e => ?_) _, ownsRow_setCell_other ha.nam (a := ⟨wr.heap.size, i, none⟩) (fun e => ?_) _, ownsRow_setCell_other ha.row (a := ⟨wr.heap.size, i, none⟩) (fun e => ?_) _, ha.bel.setCell (p := ⟨wr.heap.size, i, none⟩) h.bel.size _⟩
  · injection e with e
    have e2 : gU = wr.heap.size := e
    omega
  · injection e with e
    have e2 : gN = wr.heap.size := e
    omega
  · have := (h.row.lt _ e).2
    exact Nat.lt_irrefl _ this
end Go.Proofs.YtepgfcjfdnakbaaDoor
/- Inventories, part 23: the price of a piece with all that belongs to it, in plain words. -/
namespace Go.Proofs.YtepgfcjfdnakbaaDoor

/-- a sum of m numbers -/
def smN (g : Nat → Nat) : Nat → Nat
  | 0 => 0
  | m + 1 => smN g m + g m
theorem smN_congr {g h : Nat → Nat} : ∀ m, (∀ i, i < m → g i = h i) → smN g m = smN h m
  | 0, _ => rfl
  | m + 1, e => by
    show smN g m + g m = smN h m + h m
    rw [smN_congr m (fun i hi => e i (by omega)), e m (by omega)]
theorem smN_zero {g : Nat → Nat} (m : Nat) (h : ∀ i, i < m → g i = 0) : smN g m = 0 := by
  induction m with
  | zero => rfl
  | succ m ih =>
    show smN g m + g m = 0
    rw [ih (fun i hi => h i (by omega)), h m (by omega)]
theorem smN_add (g h : Nat → Nat) : ∀ m, smN (fun i => g i + h i) m = smN g m + smN h m
  | 0 => rfl
  | m + 1 => by
    show smN (fun i => g i + h i) m + (g m + h m) = smN g m + g m + (smN h m + h m)
    rw [smN_add g h m]
    omega
theorem smN_mul (a : Nat) (g : Nat → Nat) : ∀ m, smN (fun i => a * g i) m = a * smN g m
  | 0 => rfl
  | m + 1 => by
    show smN (fun i => a * g i) m + a * g m = a * (smN g m + g m)
    rw [smN_mul a g m, Nat.mul_add]
theorem smN_mono (g : Nat → Nat) {a b : Nat} (h : a ≤ b) : smN g a ≤ smN g b := by
  induction b with
  | zero => rw [Nat.le_zero.1 h]; exact Nat.le_refl _
  | succ b ih =>
    by_cases e : a = b + 1
    · rw [e]; exact Nat.le_refl _
    · exact Nat.le_trans (ih (by omega)) (Nat.le_add_right _ _)
theorem smN_at (g : Nat → Nat) {i m : Nat} (h : i < m) : g i ≤ smN g m :=
  Nat.le_trans (Nat.le_add_left _ _) (smN_mono g (show i + 1 ≤ m from h))
theorem smN_one (a : Nat) {j : Nat} : ∀ m, j < m → smN (fun i => if i = j then a else 0) m = a
  | 0, h => by omega
  | m + 1, h => by
    show smN (fun i => if i = j then a else 0) m + (if m = j then a else 0) = a
    by_cases e : m = j
    · rw [if_pos e, smN_zero m (fun i hi => if_neg (by omega)), Nat.zero_add]
    · rw [if_neg e, smN_one a m (by omega), Nat.add_zero]

/-- what a piece adds to the price of piece x -/
def chT (xs : List Pc) (f : Nat → Nat) (x i : Nat) : Nat := if (pg xs i).par = (x : Int) then (pg xs i).each.toNat * f i else 0
def prF (xs : List Pc) (n : Nat) : Nat → Nat → Nat
  | 0 => fun _ => 0
  | d + 1 => fun k => (pg xs k).price.toNat + smN (chT xs (prF xs n d) k) n
def prN (xs : List Pc) : Nat → Nat := prF xs xs.length xs.length
theorem Shp.lt {xs : List Pc} {n i : Nat} (h : Shp xs n) (hi : i < n) : (pg xs i).par < (i : Int) := by
  by_cases h0 : i = 0
  · subst h0
    rw [h.par0 hi]
    omega
  · exact (h.par i (by omega) hi).2
theorem chT_zero {xs : List Pc} {n : Nat} (h : Shp xs n) (f : Nat → Nat) {x i : Nat} (hi : i < n) (hx : i ≤ x) : chT xs f x i = 0 := by
  have := h.lt hi
  unfold chT
  rw [if_neg (by omega)]
theorem prF_stable {xs : List Pc} {n : Nat} (h : Shp xs n) : ∀ d k, k < n → n - k ≤ d → prF xs n d k = prF xs n (d + 1) k := by
  intro d
  induction d with
  | zero => intro k hk hd; omega
  | succ d ih =>
    intro k hk hd
    show (pg xs k).price.toNat + smN (chT xs (prF xs n d) k) n = (pg xs k).price.toNat + smN (chT xs (prF xs n (d + 1)) k) n
    congr 1
    refine smN_congr n fun i hi => ?_
    unfold chT
    split
    · rename_i hp
      have := h.lt hi
      rw [ih i hi (by omega)]
    · rfl
theorem prN_eq {xs : List Pc} (h : Shp xs xs.length) {k : Nat} (hk : k < xs.length) : prN xs k = (pg xs k).price.toNat + smN (chT xs (prN xs) k) xs.length := by
  have := prF_stable h xs.length k hk (by omega)
  exact this
/-- the pieces at or behind place j that belong to one in front of it -/
def qT (xs : List Pc) (j i : Nat) : Nat := if j ≤ i ∧ (pg xs i).par < (j : Int) then prN xs i * tot xs i else 0
theorem qT_step {xs : List Pc} (h : Shp xs xs.length) {j i : Nat} (hj : j < xs.length) (hi : i < xs.length) :
    qT xs j i + tot xs j * chT xs (prN xs) j i = qT xs (j + 1) i + (if i = j then prN xs j * tot xs j else 0) := by
  have hp := h.lt hi
  rcases Nat.lt_trichotomy i j with h1 | h1 | h1
  · rw [chT_zero h _ hi (by omega)]
    unfold qT
    rw [if_neg (by omega), if_neg (by omega), if_neg (by omega), Nat.mul_zero]
  · subst h1
    rw [chT_zero h _ hi (Nat.le_refl _)]
    unfold qT
    rw [if_pos (by omega), if_neg (by omega), if_pos rfl, Nat.mul_zero, Nat.zero_add, Nat.add_zero]
  · rw [if_neg (show ¬ i = j by omega)]
    by_cases h2 : (pg xs i).par = (j : Int)
    · have ht := tot_step h (show 0 < i by omega) hi
      rw [h2, Int.toNat_natCast] at ht
      unfold qT chT
      rw [if_neg (by omega), if_pos h2, if_pos (by omega), ht]
      generalize (pg xs i).each.toNat = e
      generalize tot xs j = t
      generalize prN xs i = p
      rw [Nat.zero_add, Nat.add_zero, Nat.mul_left_comm, ← Nat.mul_assoc]
      exact Nat.mul_comm _ _
    · unfold chT
      rw [if_neg h2]
      unfold qT
      by_cases h3 : (pg xs i).par < (j : Int)
      · rw [if_pos (by omega), if_pos (by omega), Nat.mul_zero]
      · rw [if_neg (by omega), if_neg (by omega), Nat.mul_zero]
theorem qT_sum {xs : List Pc} (h : Shp xs xs.length) {j : Nat} (hj : j < xs.length) : smN (qT xs j) xs.length = smN (qT xs (j + 1)) xs.length + (pg xs j).price.toNat * tot xs j := by
  have h1 := smN_congr xs.length (fun i hi => qT_step h hj hi)
  rw [smN_add, smN_add, smN_mul, smN_one _ _ hj, prN_eq h hj, Nat.mul_comm (_ + _) (tot xs j), Nat.mul_add] at h1
  rw [Nat.mul_comm (pg xs j).price.toNat]
  omega
theorem qT_bd {xs : List Pc} (h : Shp xs xs.length) (ht : ∀ i, i < xs.length → tot xs i ≤ 1000000) (hp : ∀ i, i < xs.length → (pg xs i).price ≤ 1000000) : ∀ d, d ≤ xs.length → smN (qT xs (xs.length - d)) xs.length ≤ d * 1000000000000 := by
  intro d
  induction d with
  | zero =>
    intro _
    rw [Nat.sub_zero, smN_zero _ (fun i hi => by unfold qT; rw [if_neg (by omega)])]
    exact Nat.zero_le _
  | succ d ih =>
    intro hd
    have h1 := qT_sum h (show xs.length - (d + 1) < xs.length by omega)
    rw [show xs.length - (d + 1) + 1 = xs.length - d by omega] at h1
    have h2 := ih (by omega)
    have h3 : (pg xs (xs.length - (d + 1))).price.toNat * tot xs (xs.length - (d + 1)) ≤ 1000000 * 1000000 := Nat.mul_le_mul (by have := hp (xs.length - (d + 1)) (by omega); omega) (ht _ (by omega))
    omega
theorem prN_bd {xs : List Pc} (hn : xs.length ≤ 40) (h : Shp xs xs.length) (ht : ∀ i, i < xs.length → tot xs i ≤ 1000000) (hp : ∀ i, i < xs.length → (pg xs i).price ≤ 1000000) {k : Nat} (hk : k < xs.length) : prN xs k ≤ 40000000000000 := by
  have h1 := qT_bd h ht hp (xs.length - k) (by omega)
  rw [show xs.length - (xs.length - k) = k by omega] at h1
  have h2 := smN_at (qT xs k) hk
  have h3 : qT xs k k = prN xs k * tot xs k := by unfold qT; rw [if_pos ⟨Nat.le_refl _, h.lt hk⟩]
  rw [h3] at h2
  have h4 := Nat.le_mul_of_pos_right (prN xs k) (tot_pos h k hk)
  have h5 : (xs.length - k) * 1000000000000 ≤ 40 * 1000000000000 := Nat.mul_le_mul_right _ (by omega)
  omega
/-- the table that the program fills from the end: pieces from place j on are done -/
def prA (xs : List Pc) (j x : Nat) : Nat := if j ≤ x then prN xs x else smN (chT xs (prN xs) x) xs.length - smN (chT xs (prN xs) x) j
theorem prA_end (xs : List Pc) {x : Nat} (hx : x < xs.length) : prA xs xs.length x = 0 := by
  unfold prA
  rw [if_neg (by omega), Nat.sub_self]
theorem prA_own {xs : List Pc} (h : Shp xs xs.length) {j : Nat} (hj : j < xs.length) : prA xs (j + 1) j + (pg xs j).price.toNat = prN xs j := by
  unfold prA
  rw [if_neg (by omega), smN_zero (j + 1) (fun i hi => chT_zero h _ (by omega) (by omega)), prN_eq h hj]
  omega
theorem prA_self {xs : List Pc} (j : Nat) : prA xs j j = prN xs j := by unfold prA; rw [if_pos (Nat.le_refl _)]
theorem prA_par {xs : List Pc} {j p : Nat} (hj : j < xs.length) (hp : (pg xs j).par = (p : Int)) (hpj : p < j) : prA xs (j + 1) p + (pg xs j).each.toNat * prN xs j = prA xs j p := by
  have h1 : smN (chT xs (prN xs) p) (j + 1) = smN (chT xs (prN xs) p) j + (pg xs j).each.toNat * prN xs j := by
    show smN (chT xs (prN xs) p) j + chT xs (prN xs) p j = _
    congr 1
    unfold chT
    rw [if_pos hp]
  have h2 := smN_mono (chT xs (prN xs) p) (show j + 1 ≤ xs.length from hj)
  unfold prA
  rw [if_neg (by omega), if_neg (by omega)]
  omega
theorem prA_else {xs : List Pc} {j x : Nat} (hne : x ≠ j) (hp : (pg xs j).par ≠ (x : Int)) : prA xs (j + 1) x = prA xs j x := by
  unfold prA
  by_cases h1 : j + 1 ≤ x
  · rw [if_pos h1, if_pos (by omega)]
  · rw [if_neg h1, if_neg (by omega)]
    congr 1
    show smN (chT xs (prN xs) x) j + chT xs (prN xs) x j = _
    unfold chT
    rw [if_neg hp, Nat.add_zero]
theorem prA_le {xs : List Pc} (h : Shp xs xs.length) {j x : Nat} (hx : x < xs.length) : prA xs j x ≤ prN xs x := by
  unfold prA
  split
  · exact Nat.le_refl _
  · rw [prN_eq h hx]
    omega
end Go.Proofs.YtepgfcjfdnakbaaDoor
/- Inventories, part 24: PriceOf of the reference. -/
namespace Go.Proofs.YtepgfcjfdnakbaaDoor
open Go.RowKit Go.Joins

end Go.Proofs.YtepgfcjfdnakbaaDoor
/- Inventories, part 25: PriceOf, both sides. -/
namespace Go.Proofs.YtepgfcjfdnakbaaDoor
open Go.RowKit Go.Joins

def prV (xs : List Pc) (k : Int) : Int := if cdP xs k = 0 then (prN xs k.toNat : Int) else 0
def RetPr (xs : List Pc) (k : Int) (w : World) (e : Ending) (w' : World) : Prop := e = .returned (.tuple #[.int .i64 (prV xs k), .int .i64 (cdP xs k)]) ∧ Below w.heap.size w w'
theorem okP_price {xs : List Pc} (h : allN xs.length (pcB xs) = true) {i : Nat} (hi : i < xs.length) : 0 ≤ (pg xs i).price ∧ (pg xs i).price ≤ 1000000 := (pcB_ok (allN_get h hi)).2.2.2.1
end Go.Proofs.YtepgfcjfdnakbaaDoor
/- Inventories, part 26: PriceOf of the program (gen_pc26.py). -/
namespace Go.Proofs.YtepgfcjfdnakbaaDoor
open Go.RowKit Go.Joins

theorem prA_store {xs : List Pc} {i p : Nat} (hi : i < xs.length) (hp : (pg xs i).par = (p : Int)) (hpi : p < i) : tab xs.length (put (put (fun x => (prA xs (i + 1) x : Int)) i (prN xs i : Int)) p (prA xs i p : Int)) = tab xs.length (fun x => (prA xs i x : Int)) := tab_congr fun x _ => by
  unfold put
  by_cases h1 : x = p
  · rw [if_pos h1, h1]
  · rw [if_neg h1]
    by_cases h2 : x = i
    · rw [if_pos h2, h2, prA_self]
    · rw [if_neg h2]
      exact congrArg _ (prA_else h2 (by omega))
theorem prA_store0 {xs : List Pc} {i : Nat} (hp : (pg xs i).par = -1) : tab xs.length (put (fun x => (prA xs (i + 1) x : Int)) i (prN xs i : Int)) = tab xs.length (fun x => (prA xs i x : Int)) := tab_congr fun x _ => by
  unfold put
  by_cases h2 : x = i
  · rw [if_pos h2, h2, prA_self]
  · rw [if_neg h2]
    exact congrArg _ (prA_else h2 (by omega))
end Go.Proofs.YtepgfcjfdnakbaaDoor
/- Inventories, part 27: SamePieces, both sides (gen_pc27.py). -/
namespace Go.Proofs.YtepgfcjfdnakbaaDoor
open Go.RowKit Go.Joins

theorem take_eqP {xs ys : List Pc} (k : Nat) (hx : k < xs.length) (hy : k < ys.length) (h0 : xs.take k = ys.take k) (h : xs[k] = ys[k]) : xs.take (k + 1) = ys.take (k + 1) := by
  rw [List.take_succ_eq_append_getElem hx, List.take_succ_eq_append_getElem hy, h0, h]
theorem ne_ofP {xs ys : List Pc} (k : Nat) (hx : k < xs.length) (hy : k < ys.length) (h : xs[k] ≠ ys[k]) : decide (xs = ys) = false :=
  decide_eq_false fun e => h (by subst e; rfl)

set_option maxRecDepth 100000 in
set_option maxHeartbeats 1600000 in
theorem SamePI_any (B1 B2 : Nat) (v1 v2 : Value) (xs ys : List Pc) (w : World) (h1 : RdP w B1 v1 xs) (h2 : RdP w B2 v2 ys) (hx : xs.length ≤ 1048576) :
    Calls Tryd.prog 25 #[v1, v2] w fun e w' => e = .returned (.bool (decide (xs = ys))) ∧ ∃ n, w' = w.drewN n := by
  have H1 := Lib.hid h1
  have H2 := Lib.hid h2
  obtain ⟨A1, c1, rfl⟩ := h1.slice
  obtain ⟨A2, c2, rfl⟩ := h2.slice
  clear h1 h2
  by_cases hl : xs.length = ys.length
  · have hl' : ((xs.length : Int) == (ys.length : Int)) = true := by rw [beq_iff_eq]; omega
    have hl2 : ((xs.length : Int) != (ys.length : Int)) = false := by simp [bne, hl']
    have Hl := Lib.hid hl; clear hl
    go_enter Tryd.func25, Tryd.ntmps25
    go_wp2_with fail
    go_loopw [13] (fun i wr => ∃ k : Nat, k ≤ xs.length ∧ i = .int .i64 (k : Int) ∧ xs.take k = ys.take k ∧ ∃ n, wr = w.drewN n) (fun i _ => xs.length - (intOf i).toNat)
    case atStart => exact ⟨0, Nat.zero_le _, rfl, rfl, 0, rfl⟩
    case round =>
      obtain ⟨k, hk, rfl, htk, n0, rfl⟩ := hrel
      have Htk := Lib.hid htk
      clear htk
      by_cases hlt : k < xs.length
      · have hlt' : (k : Int) < (xs.length : Int) := by omega
        have hlt2 : (k : Int) < (ys.length : Int) := by have := Hl.out; omega
        have hky : k < ys.length := by have := Hl.out; omega
        obtain ⟨b1, o1, hA1, hE1⟩ := H1.out.at k hlt
        obtain ⟨b2, o2, hA2, hE2⟩ := H2.out.at k hky
        subst hA1 hA2
        rw [pg_at hlt] at hE1
        rw [pg_at hky] at hE2
        have hkz : (0 : Int) ≤ (k : Int) := by omega
        have Hst := Lib.hid (fun h => take_eqP (xs := xs) (ys := ys) k hlt hky Htk.out h)
        have Hbad := Lib.hid (fun h => ne_ofP (xs := xs) (ys := ys) k hlt hky h)
        generalize xs[k] = x at *
        generalize ys[k] = y at *
        obtain ⟨a, b, f, t⟩ := x
        obtain ⟨a2, b2', f2, t2⟩ := y
        obtain ⟨_, p0, p1, p2, p3⟩ := hE1
        obtain ⟨_, q0, q1, q2, q3⟩ := hE2
        dsimp only at p0 p1 p2 p3 q0 q1 q2 q3
        by_cases he : (⟨a, b, f, t⟩ : Pc) = ⟨a2, b2', f2, t2⟩
        · have Hs2 := Lib.hid (Hst.out he)
          injection he with e1 e2 e3 e4
          subst e1 e2 e3 e4
          clear Hst Hbad
          go_wp2_with fail
          go_quiet (fail)
          go_wp2_with fail
          go_roundw
          case rel => exact ⟨k + 1, by omega, by go_num, Hs2.out, _, rfl⟩
          case measure => simp [intOf]; omega
        · have Hb2 := Lib.hid (Hbad.out he)
          clear Hst Hbad
          by_cases h1 : a = a2
          · subst h1
            by_cases h2 : b = b2'
            · subst h2
              by_cases h3 : f = f2
              · subst h3
                have h4 : (t == t2) = false := beq_eq_false_iff_ne.2 fun h => he (by rw [h])
                go_wp2_with fail
                go_quiet (fail)
                go_wp2_with fail
                go_ret
                exact ⟨by rw [Hb2.out]; rfl, _, World.drewN_drewN _ _ _⟩
              · have h4 : (f == f2) = false := beq_eq_false_iff_ne.2 h3
                go_wp2_with fail
                go_quiet (fail)
                go_wp2_with fail
                go_ret
                exact ⟨by rw [Hb2.out]; rfl, _, World.drewN_drewN _ _ _⟩
            · have h4 : (b == b2') = false := beq_eq_false_iff_ne.2 h2
              go_wp2_with fail
              go_quiet (fail)
              go_wp2_with fail
              go_ret
              exact ⟨by rw [Hb2.out]; rfl, _, World.drewN_drewN _ _ _⟩
          · have h4 : (a.toList == a2.toList) = false := beq_eq_false_iff_ne.2 fun h => h1 (ba_inj h)
            go_wp2_with fail
            go_quiet (fail)
            go_wp2_with fail
            go_ret
            exact ⟨by rw [Hb2.out]; rfl, _, World.drewN_drewN _ _ _⟩
      · have hkk : k = xs.length := by omega
        subst hkk
        have hlt' : (xs.length : Int) ≤ (xs.length : Int) := Int.le_refl _
        have he : xs = ys := by
          have h := Htk.out
          have h3 := Hl.out
          rw [List.take_length, h3, List.take_length] at h
          exact h
        have He := Lib.hid (decide_eq_true he)
        clear he
        go_wp2_with fail
        go_ret
        exact ⟨by rw [He.out]; rfl, n0, rfl⟩
  · have hl' : ((xs.length : Int) == (ys.length : Int)) = false := by rw [beq_eq_false_iff_ne]; omega
    have hl2 : ((xs.length : Int) != (ys.length : Int)) = true := by simp [bne, hl']
    have He := Lib.hid (show decide (xs = ys) = false from decide_eq_false (fun h => hl (by rw [h])))
    clear hl
    go_enter Tryd.func25, Tryd.ntmps25
    go_wp2_with fail
    go_ret
    exact ⟨by rw [He.out]; rfl, 0, rfl⟩

set_option maxRecDepth 100000 in
set_option maxHeartbeats 1600000 in
theorem SamePS_any (B1 B2 : Nat) (v1 v2 : Value) (xs ys : List Pc) (w : World) (h1 : RdP w B1 v1 xs) (h2 : RdP w B2 v2 ys) (hx : xs.length ≤ 1048576) :
    Calls Tryd.prog 24 #[v1, v2] w fun e w' => e = .returned (.bool (decide (xs = ys))) ∧ ∃ n, w' = w.drewN n := by
  have H1 := Lib.hid h1
  have H2 := Lib.hid h2
  obtain ⟨A1, c1, rfl⟩ := h1.slice
  obtain ⟨A2, c2, rfl⟩ := h2.slice
  clear h1 h2
  by_cases hl : xs.length = ys.length
  · have hl' : ((xs.length : Int) == (ys.length : Int)) = true := by rw [beq_iff_eq]; omega
    have hl2 : ((xs.length : Int) != (ys.length : Int)) = false := by simp [bne, hl']
    have Hl := Lib.hid hl; clear hl
    go_enter Tryd.func24, Tryd.ntmps24
    go_wp2_with fail
    go_loopw [5] (fun i wr => ∃ k : Nat, k ≤ xs.length ∧ i = .int .i64 (k : Int) ∧ xs.take k = ys.take k ∧ ∃ n, wr = w.drewN n) (fun i _ => xs.length - (intOf i).toNat)
    case atStart => exact ⟨0, Nat.zero_le _, rfl, rfl, 0, rfl⟩
    case round =>
      obtain ⟨k, hk, rfl, htk, n0, rfl⟩ := hrel
      have Htk := Lib.hid htk
      clear htk
      by_cases hlt : k < xs.length
      · have hlt' : (k : Int) < (xs.length : Int) := by omega
        have hlt2 : (k : Int) < (ys.length : Int) := by have := Hl.out; omega
        have hky : k < ys.length := by have := Hl.out; omega
        obtain ⟨b1, o1, hA1, hE1⟩ := H1.out.at k hlt
        obtain ⟨b2, o2, hA2, hE2⟩ := H2.out.at k hky
        subst hA1 hA2
        rw [pg_at hlt] at hE1
        rw [pg_at hky] at hE2
        have hkz : (0 : Int) ≤ (k : Int) := by omega
        have Hst := Lib.hid (fun h => take_eqP (xs := xs) (ys := ys) k hlt hky Htk.out h)
        have Hbad := Lib.hid (fun h => ne_ofP (xs := xs) (ys := ys) k hlt hky h)
        generalize xs[k] = x at *
        generalize ys[k] = y at *
        obtain ⟨a, b, f, t⟩ := x
        obtain ⟨a2, b2', f2, t2⟩ := y
        obtain ⟨_, p0, p1, p2, p3⟩ := hE1
        obtain ⟨_, q0, q1, q2, q3⟩ := hE2
        dsimp only at p0 p1 p2 p3 q0 q1 q2 q3
        by_cases he : (⟨a, b, f, t⟩ : Pc) = ⟨a2, b2', f2, t2⟩
        · have Hs2 := Lib.hid (Hst.out he)
          injection he with e1 e2 e3 e4
          subst e1 e2 e3 e4
          clear Hst Hbad
          go_wp2_with fail
          go_quiet (fail)
          go_wp2_with fail
          go_roundw
          case rel => exact ⟨k + 1, by omega, by go_num, Hs2.out, _, rfl⟩
          case measure => simp [intOf]; omega
        · have Hb2 := Lib.hid (Hbad.out he)
          clear Hst Hbad
          by_cases h1 : a = a2
          · subst h1
            by_cases h2 : b = b2'
            · subst h2
              by_cases h3 : f = f2
              · subst h3
                have h4 : (t == t2) = false := beq_eq_false_iff_ne.2 fun h => he (by rw [h])
                go_wp2_with fail
                go_quiet (fail)
                go_wp2_with fail
                go_ret
                exact ⟨by rw [Hb2.out]; rfl, _, World.drewN_drewN _ _ _⟩
              · have h4 : (f == f2) = false := beq_eq_false_iff_ne.2 h3
                go_wp2_with fail
                go_quiet (fail)
                go_wp2_with fail
                go_ret
                exact ⟨by rw [Hb2.out]; rfl, _, World.drewN_drewN _ _ _⟩
            · have h4 : (b == b2') = false := beq_eq_false_iff_ne.2 h2
              go_wp2_with fail
              go_quiet (fail)
              go_wp2_with fail
              go_ret
              exact ⟨by rw [Hb2.out]; rfl, _, World.drewN_drewN _ _ _⟩
          · have h4 : (a.toList == a2.toList) = false := beq_eq_false_iff_ne.2 fun h => h1 (ba_inj h)
            go_wp2_with fail
            go_quiet (fail)
            go_wp2_with fail
            go_ret
            exact ⟨by rw [Hb2.out]; rfl, _, World.drewN_drewN _ _ _⟩
      · have hkk : k = xs.length := by omega
        subst hkk
        have hlt' : (xs.length : Int) ≤ (xs.length : Int) := Int.le_refl _
        have he : xs = ys := by
          have h := Htk.out
          have h3 := Hl.out
          rw [List.take_length, h3, List.take_length] at h
          exact h
        have He := Lib.hid (decide_eq_true he)
        clear he
        go_wp2_with fail
        go_ret
        exact ⟨by rw [He.out]; rfl, n0, rfl⟩
  · have hl' : ((xs.length : Int) == (ys.length : Int)) = false := by rw [beq_eq_false_iff_ne]; omega
    have hl2 : ((xs.length : Int) != (ys.length : Int)) = true := by simp [bne, hl']
    have He := Lib.hid (show decide (xs = ys) = false from decide_eq_false (fun h => hl (by rw [h])))
    clear hl
    go_enter Tryd.func24, Tryd.ntmps24
    go_wp2_with fail
    go_ret
    exact ⟨by rw [He.out]; rfl, 0, rfl⟩
end Go.Proofs.YtepgfcjfdnakbaaDoor
/- Inventories, texts, part 1: TotalOf and PathOfPiece, both sides; PiecesUnder of the reference (gen_pq1.py). -/
namespace Go.Proofs.YtepgfcjfdnakbaaDoor
open Go.RowKit Go.Joins

theorem adr_inj {b o b' o' : Nat} (h : (some (⟨b, o, none⟩ : Addr)) = some ⟨b', o', none⟩) : b = b' ∧ o = o' := by
  simp only [Option.some.injEq, Addr.mk.injEq, and_true] at h
  exact h
/-- the way up from a piece -/
def pathF (xs : List Pc) : Nat → Int → List Nat
  | 0, _ => []
  | d + 1, c => if c < 0 then [] else c.toNat :: pathF xs d (pg xs c.toNat).par
def pathL (xs : List Pc) (k : Nat) : List Nat := pathF xs (k + 1) (k : Int)
theorem pathF_neg (xs : List Pc) (d : Nat) {c : Int} (h : c < 0) : pathF xs d c = [] := by
  cases d with
  | zero => rfl
  | succ d => unfold pathF; rw [if_pos h]
theorem Shp.par_in {xs : List Pc} {n k : Nat} (h : Shp xs n) (hk : k < n) : -1 ≤ (pg xs k).par ∧ (pg xs k).par < (k : Int) := by
  by_cases h0 : k = 0
  · subst h0
    have := h.par0 hk
    omega
  · have := h.par k (by omega) hk
    omega
theorem pathF_more {xs : List Pc} {n : Nat} (h : Shp xs n) : ∀ (d e : Nat) (c : Int), c < (n : Int) → c < (d : Int) → c < (e : Int) → pathF xs d c = pathF xs e c := by
  intro d
  induction d with
  | zero =>
    intro e c _ h1 _
    rw [pathF_neg xs 0 (by omega), pathF_neg xs e (by omega)]
  | succ d ih =>
    intro e c hn h1 h2
    by_cases h0 : c < 0
    · rw [pathF_neg xs _ h0, pathF_neg xs _ h0]
    · obtain ⟨e, rfl⟩ : ∃ e', e = e' + 1 := ⟨e - 1, by omega⟩
      obtain ⟨j, rfl⟩ : ∃ j : Nat, c = (j : Int) := ⟨c.toNat, by omega⟩
      have hp := h.par_in (k := j) (by omega)
      show (if (j : Int) < 0 then [] else (j : Int).toNat :: pathF xs d (pg xs (j : Int).toNat).par) = (if (j : Int) < 0 then [] else (j : Int).toNat :: pathF xs e (pg xs (j : Int).toNat).par)
      rw [if_neg h0, if_neg h0, Int.toNat_natCast, ih e _ (by omega) (by omega) (by omega)]
/-- the rest of the way from a place -/
def wayR (xs : List Pc) (c : Int) : List Nat := pathF xs (c + 1).toNat c
theorem wayR_neg {xs : List Pc} {c : Int} (h : c < 0) : wayR xs c = [] := pathF_neg xs _ h
theorem wayR_step {xs : List Pc} {n k : Nat} (h : Shp xs n) (hk : k < n) : wayR xs (k : Int) = k :: wayR xs (pg xs k).par := by
  have hp := h.par_in hk
  unfold wayR
  rw [show ((k : Int) + 1).toNat = k + 1 by omega]
  show (if (k : Int) < 0 then [] else (k : Int).toNat :: pathF xs k (pg xs (k : Int).toNat).par) = _
  rw [if_neg (by omega), Int.toNat_natCast, pathF_more h k ((pg xs k).par + 1).toNat _ (by omega) (by omega) (by omega)]
theorem wayR_path (xs : List Pc) (k : Nat) : wayR xs (k : Int) = pathL xs k := by
  unfold wayR pathL
  rw [show ((k : Int) + 1).toNat = k + 1 by omega]
theorem wayR_len {xs : List Pc} {n : Nat} (h : Shp xs n) : ∀ (d : Nat) (c : Int), c < (n : Int) → c < (d : Int) → (wayR xs c).length ≤ (c + 1).toNat := by
  intro d
  induction d with
  | zero => intro c _ hd; rw [wayR_neg (by omega)]; exact Nat.zero_le _
  | succ d ih =>
    intro c hn hd
    by_cases h0 : c < 0
    · rw [wayR_neg h0]; exact Nat.zero_le _
    · obtain ⟨j, rfl⟩ : ∃ j : Nat, c = (j : Int) := ⟨c.toNat, by omega⟩
      have hp := h.par_in (k := j) (by omega)
      rw [wayR_step h (by omega), List.length_cons]
      have := ih (pg xs j).par (by omega) (by omega)
      omega
def toV (xs : List Pc) (k : Int) : Int := if cdP xs k = 0 then (tot xs k.toNat : Int) else 0
def RetTt (xs : List Pc) (k : Int) (w : World) (e : Ending) (w' : World) : Prop := e = .returned (.tuple #[.int .i64 (toV xs k), .int .i64 (cdP xs k)]) ∧ Below w.heap.size w w'
def paC (xs : List Pc) (k : Int) : List Nat := if cdP xs k = 0 then pathL xs k.toNat else []
/-- numbers of the call's own, and a code -/
def RetNc (l : List Nat) (c : Int) (w : World) (e : Ending) (w' : World) : Prop := ∃ v, e = .returned (.tuple #[v, .int .i64 c]) ∧ w'.ownsRow w.heap.size 2 1 v l.length (natV l) ∧ Below w.heap.size w w'
theorem RetNc.bad {l : List Nat} {c : Int} {w w' : World} (h : l = []) (hb : Below w.heap.size w w') : RetNc l c w (.returned (.tuple #[.slice none 0 0, .int .i64 c])) w' := by
  subst h
  exact ⟨_, rfl, ⟨by simp [natV], .inl ⟨rfl, rfl⟩⟩, hb⟩
set_option maxRecDepth 100000 in
set_option maxHeartbeats 1600000 in
theorem TotalI_any (B : Nat) (v : Value) (xs : List Pc) (k : Int) (w : World) (h : RdP w B v xs) (hB : B ≤ w.heap.size) (hn : xs.length ≤ 100000) (hz : szP xs) :
    Calls Tryd.prog 7 #[v, .int .i64 k] w (RetTt xs k w) := by
  have HC := Lib.hid (codeI_any B v xs k w h hB hn hz)
  have H := Lib.hid h
  obtain ⟨A, c, rfl⟩ := h.slice
  clear h hz
  by_cases hd : cdP xs k = 0
  · obtain ⟨hok, j, rfl, hj⟩ := cdP_ok hd
    obtain ⟨⟨_, hl40⟩, _, hsh, htt⟩ := okP_ok hok
    have hv : toV xs (j : Int) = (tot xs j : Int) := by unfold toV; rw [if_pos hd, Int.toNat_natCast]
    have Hfin := Lib.hid (fun w' (hb : Below w.heap.size w w') => (show RetTt xs (j : Int) w (.returned (.tuple #[.int .i64 (tot xs j : Int), .int .i64 0])) w' from ⟨by rw [hv, hd], hb⟩))
    have ht := htt j hj
    have HR := Lib.hid (fun wx hx => total_any B (.slice A xs.length c) xs xs.length j wx hx hsh (Nat.le_refl _) hj (by omega))
    unfold RetTo at HR
    rw [hd] at HC
    clear hd hok hsh htt hv
    generalize tot xs j = y at *
    go_enter Tryd.func7, Tryd.ntmps7
    go_wp2_with fail
    refine (HC.out).mono ?_; rintro e w2 ⟨rfl, hb2⟩
    have Hb2 := Lib.hid hb2
    have HR2 := Lib.hid (HR.out w2 (H.out.below (hb2.mono hB)))
    clear hb2 HR
    go_wp2_with fail
    refine (HR2.out).mono ?_; rintro e w3 ⟨r, rfl, hr, _, _, rfl⟩
    have hry := hr ht
    subst hry
    have Hz := Lib.hid (Hfin.out _ Hb2.out)
    clear hr
    go_wp2_with fail
    go_ret2
    exact Hz.out
  · obtain ⟨c1, hc1⟩ : ∃ z, cdP xs k = z := ⟨_, rfl⟩
    have hv : toV xs k = 0 := by unfold toV; rw [if_neg hd]
    have Hfin := Lib.hid (fun w' (hb : Below w.heap.size w w') => (show RetTt xs k w (.returned (.tuple #[.int .i64 0, .int .i64 c1])) w' from ⟨by rw [hv, hc1], hb⟩))
    rw [hc1] at HC hd
    have hcb : (c1 == 0) = false := by simp [hd]
    have hcb2 : (c1 != 0) = true := by simp [hd]
    clear hc1 hv
    go_enter Tryd.func7, Tryd.ntmps7
    go_wp2_with fail
    refine (HC.out).mono ?_; rintro e w2 ⟨rfl, hb2⟩
    have Hz := Lib.hid (Hfin.out w2 hb2)
    clear hb2
    go_wp2_with fail
    go_ret2
    exact Hz.out
set_option maxRecDepth 100000 in
set_option maxHeartbeats 1600000 in
theorem TotalS_any (B : Nat) (v : Value) (xs : List Pc) (k : Int) (w : World) (h : RdP w B v xs) (hB : B ≤ w.heap.size) (hn : xs.length ≤ 100000) (hz : szP xs) :
    Calls Tryd.prog 8 #[v, .int .i64 k] w (RetTt xs k w) := by
  have HC := Lib.hid (codeS_any B v xs k w h hB hn hz)
  have H := Lib.hid h
  obtain ⟨A, c, rfl⟩ := h.slice
  clear h hz
  by_cases hd : cdP xs k = 0
  · obtain ⟨hok, j, rfl, hj⟩ := cdP_ok hd
    obtain ⟨⟨_, hl40⟩, _, hsh, htt⟩ := okP_ok hok
    have hv : toV xs (j : Int) = (tot xs j : Int) := by unfold toV; rw [if_pos hd, Int.toNat_natCast]
    have Hfin := Lib.hid (fun w' (hb : Below w.heap.size w w') => (show RetTt xs (j : Int) w (.returned (.tuple #[.int .i64 (tot xs j : Int), .int .i64 0])) w' from ⟨by rw [hv, hd], hb⟩))
    have ht := htt j hj
    have HR := Lib.hid (fun wx hx => l21Total_any B (.slice A xs.length c) xs xs.length j wx hx hsh (Nat.le_refl _) hj (by omega))
    unfold RetTo at HR
    rw [hd] at HC
    clear hd hok hsh htt hv
    generalize tot xs j = y at *
    go_enter Tryd.func8, Tryd.ntmps8
    go_wp2_with fail
    refine (HC.out).mono ?_; rintro e w2 ⟨rfl, hb2⟩
    have Hb2 := Lib.hid hb2
    have HR2 := Lib.hid (HR.out w2 (H.out.below (hb2.mono hB)))
    clear hb2 HR
    go_wp2_with fail
    refine (HR2.out).mono ?_; rintro e w3 ⟨r, rfl, hr, _, _, rfl⟩
    have hry := hr ht
    subst hry
    have Hz := Lib.hid (Hfin.out _ Hb2.out)
    clear hr
    go_wp2_with fail
    go_ret2
    exact Hz.out
  · obtain ⟨c1, hc1⟩ : ∃ z, cdP xs k = z := ⟨_, rfl⟩
    have hv : toV xs k = 0 := by unfold toV; rw [if_neg hd]
    have Hfin := Lib.hid (fun w' (hb : Below w.heap.size w w') => (show RetTt xs k w (.returned (.tuple #[.int .i64 0, .int .i64 c1])) w' from ⟨by rw [hv, hc1], hb⟩))
    rw [hc1] at HC hd
    have hcb : (c1 == 0) = false := by simp [hd]
    have hcb2 : (c1 != 0) = true := by simp [hd]
    clear hc1 hv
    go_enter Tryd.func8, Tryd.ntmps8
    go_wp2_with fail
    refine (HC.out).mono ?_; rintro e w2 ⟨rfl, hb2⟩
    have Hz := Lib.hid (Hfin.out w2 hb2)
    clear hb2
    go_wp2_with fail
    go_ret2
    exact Hz.out
set_option maxRecDepth 100000 in
set_option maxHeartbeats 1600000 in
theorem PathI_any (B : Nat) (v : Value) (xs : List Pc) (k : Int) (w : World) (h : RdP w B v xs) (hB : B ≤ w.heap.size) (hn : xs.length ≤ 100000) (hz : szP xs) :
    Calls Tryd.prog 9 #[v, .int .i64 k] w (RetNc (paC xs k) (cdP xs k) w) := by
  have HC := Lib.hid (codeI_any B v xs k w h hB hn hz)
  have H := Lib.hid h
  obtain ⟨A, c, rfl⟩ := h.slice
  clear h hz
  by_cases hd : cdP xs k = 0
  · obtain ⟨hok, j, rfl, hj⟩ := cdP_ok hd
    obtain ⟨⟨_, hl40⟩, _, hsh, _⟩ := okP_ok hok
    have hv : paC xs (j : Int) = wayR xs (j : Int) := by unfold paC; rw [if_pos hd, Int.toNat_natCast, wayR_path]
    have Hv := Lib.hid hv
    have HS := Lib.hid hsh
    have Hlen := Lib.hid (fun (c : Int) (hc : c < (xs.length : Int)) => wayR_len hsh xs.length c hc hc)
    rw [hd] at HC ⊢
    clear hd hok hsh hv
    go_enter Tryd.func9, Tryd.ntmps9
    go_wp2_with fail
    refine (HC.out).mono ?_; rintro e w2 ⟨rfl, hb2⟩
    have hoe := Lib.hid (World.ownsRow_made (base := w2.heap.size) (e := 2) (size := 1) w2 #[] 0 (Nat.le_refl _) (by simp [maxLen]) rfl)
    have hbe := Lib.hid ((Below.refl w2.heap.size w2).alloc (Nat.le_refl _) (.cells #[] 2))
    have Hb2 := Lib.hid hb2
    clear hb2 HC
    go_wp2_with fail
    go_loopw [1, 7] (fun x o wr => ∃ (c' : Int) (acc : List Nat), -1 ≤ c' ∧ c' < (xs.length : Int) ∧ x = .int .i64 c' ∧ acc ++ wayR xs c' = wayR xs (j : Int) ∧ acc.length ≤ 40 ∧ wr.ownsRow w2.heap.size 2 1 o acc.length (natV acc) ∧ Below w2.heap.size w2 wr) (fun x _ _ => (intOf x + 1).toNat)
    case atStart => exact ⟨j, [], by omega, by omega, rfl, rfl, by simp, hoe.out, hbe.out⟩
    case round =>
      obtain ⟨c', acc, hc1, hc2, rfl, hacc, hal, hown, hbl⟩ := hrel
      clear hoe hbe
      obtain ⟨A3, c3, rfl⟩ := own_sl hown
      have Hown := Lib.hid hown
      have Hbl := Lib.hid hbl
      by_cases h0 : c' < 0
      · have h0' : ¬ (0 ≤ c') := by omega
        rw [wayR_neg h0, List.append_nil] at hacc
        have Hz := Lib.hid (show RetNc (paC xs (j : Int)) 0 w (.returned (.tuple #[.slice A3 acc.length c3, .int .i64 0])) wr from ⟨_, rfl, by rw [Hv.out, ← hacc]; exact own_lower hown Hb2.out.size, Hb2.out.trans (hbl.mono Hb2.out.size)⟩)
        clear hacc hown hbl
        go_wp2_with fail
        go_ret2
        exact Hz.out
      · have h0' : 0 ≤ c' := by omega
        obtain ⟨i, rfl⟩ : ∃ i : Nat, c' = (i : Int) := ⟨c'.toNat, by omega⟩
        rw [wayR_step HS.out (by omega)] at hacc
        obtain ⟨b, off, hA, hat⟩ := (H.out.below ((Hb2.out.trans (hbl.mono Hb2.out.size)).mono hB)).at i (by omega)
        subst hA
        have hp := HS.out.par_in (k := i) (by omega)
        have hlw := Hlen.out (j : Int) (by omega)
        have hll := congrArg List.length hacc
        rw [List.length_append, List.length_cons] at hll
        have hal2 : acc.length + 1 ≤ 40 := by omega
        have Hacc := Lib.hid (show (acc ++ [i]) ++ wayR xs (pg xs i).par = wayR xs (j : Int) by rw [List.append_assoc]; exact hacc)
        have hil : (i : Int) < (xs.length : Int) := by omega
        have hz7 := hbl.size
        have hat2 := Lib.hid (fun wy hb => PcAt.below (w' := wy) hat hb)
        have q1 := hat.c1
        obtain ⟨hbB⟩ : PLift (b < B) := ⟨hat.lt⟩
        have HX := Lib.hid (fun wy (hy : Below w2.heap.size w2 wy) => (H.out.below ((Hb2.out.trans (hy.mono Hb2.out.size)).mono hB)).at i (by omega))
        clear hacc hown hbl hll hlw hat
        clear q1 hat2
        go_wp2_with (at_builtin; refine wpList_apd 29 2 _ 1 8 Tryd.underlying29 infoD rfl (by omega) _ _ rfl rfl w2.heap.size _ acc.length _ rfl Hown.out #[.int .i64 (i : Int)] 1 1 rfl rfl (by simp [Value.oneCell']) (by simp [maxLen]; omega) (by omega) hz7 ?_; intro v7 w7 hown7 hg7; have Hb7 := Lib.hid (below_apd Hbl.out Hown.out hg7 (Nat.le_refl _) hz7); obtain ⟨b', off', hA', hat'⟩ := HX.out w7 Hb7.out; obtain ⟨rfl, rfl⟩ := adr_inj hA'; have x1 := hat'.c1; have Ho7 := Lib.hid (show w7.ownsRow w2.heap.size 2 1 v7 (acc ++ [i]).length (natV (acc ++ [i])) by rw [natV_snoc, List.length_append]; exact hown7); clear hown7 hg7 hat')
        go_roundw
        case rel => exact ⟨(pg xs i).par, acc ++ [i], hp.1, by omega, rfl, Hacc.out, by rw [List.length_append]; exact hal2, Ho7.out, Hb7.out⟩
        case measure => first | (simp [intOf]; done) | (simp [intOf]; omega)
  · obtain ⟨c1, hc1⟩ : ∃ z, cdP xs k = z := ⟨_, rfl⟩
    have hv : paC xs k = [] := by unfold paC; rw [if_neg hd]
    rw [hc1] at HC hd ⊢
    rw [hv]
    have hcb : (c1 == 0) = false := by simp [hd]
    have hcb2 : (c1 != 0) = true := by simp [hd]
    clear hc1 hv
    go_enter Tryd.func9, Tryd.ntmps9
    go_wp2_with fail
    refine (HC.out).mono ?_; rintro e w2 ⟨rfl, hb2⟩
    have Hz := Lib.hid (RetNc.bad (l := []) (c := c1) rfl hb2)
    clear hb2
    go_wp2_with fail
    go_ret2
    exact Hz.out
set_option maxRecDepth 100000 in
set_option maxHeartbeats 1600000 in
theorem PathS_any (B : Nat) (v : Value) (xs : List Pc) (k : Int) (w : World) (h : RdP w B v xs) (hB : B ≤ w.heap.size) (hn : xs.length ≤ 100000) (hz : szP xs) :
    Calls Tryd.prog 10 #[v, .int .i64 k] w (RetNc (paC xs k) (cdP xs k) w) := by
  have HC := Lib.hid (codeS_any B v xs k w h hB hn hz)
  have H := Lib.hid h
  obtain ⟨A, c, rfl⟩ := h.slice
  clear h hz
  by_cases hd : cdP xs k = 0
  · obtain ⟨hok, j, rfl, hj⟩ := cdP_ok hd
    obtain ⟨⟨_, hl40⟩, _, hsh, _⟩ := okP_ok hok
    have hv : paC xs (j : Int) = wayR xs (j : Int) := by unfold paC; rw [if_pos hd, Int.toNat_natCast, wayR_path]
    have Hv := Lib.hid hv
    have HS := Lib.hid hsh
    have Hlen := Lib.hid (fun (c : Int) (hc : c < (xs.length : Int)) => wayR_len hsh xs.length c hc hc)
    rw [hd] at HC ⊢
    clear hd hok hsh hv
    go_enter Tryd.func10, Tryd.ntmps10
    go_wp2_with fail
    refine (HC.out).mono ?_; rintro e w2 ⟨rfl, hb2⟩
    have hoe := Lib.hid (World.ownsRow_made (base := w2.heap.size) (e := 2) (size := 1) w2 #[] 0 (Nat.le_refl _) (by simp [maxLen]) rfl)
    have hbe := Lib.hid ((Below.refl w2.heap.size w2).alloc (Nat.le_refl _) (.cells #[] 2))
    have Hb2 := Lib.hid hb2
    clear hb2 HC
    go_wp2_with fail
    go_loopw [1, 7] (fun x o wr => ∃ (c' : Int) (acc : List Nat), -1 ≤ c' ∧ c' < (xs.length : Int) ∧ x = .int .i64 c' ∧ acc ++ wayR xs c' = wayR xs (j : Int) ∧ acc.length ≤ 40 ∧ wr.ownsRow w2.heap.size 2 1 o acc.length (natV acc) ∧ Below w2.heap.size w2 wr) (fun x _ _ => (intOf x + 1).toNat)
    case atStart => exact ⟨j, [], by omega, by omega, rfl, rfl, by simp, hoe.out, hbe.out⟩
    case round =>
      obtain ⟨c', acc, hc1, hc2, rfl, hacc, hal, hown, hbl⟩ := hrel
      clear hoe hbe
      obtain ⟨A3, c3, rfl⟩ := own_sl hown
      have Hown := Lib.hid hown
      have Hbl := Lib.hid hbl
      by_cases h0 : c' < 0
      · have h0' : ¬ (0 ≤ c') := by omega
        rw [wayR_neg h0, List.append_nil] at hacc
        have Hz := Lib.hid (show RetNc (paC xs (j : Int)) 0 w (.returned (.tuple #[.slice A3 acc.length c3, .int .i64 0])) wr from ⟨_, rfl, by rw [Hv.out, ← hacc]; exact own_lower hown Hb2.out.size, Hb2.out.trans (hbl.mono Hb2.out.size)⟩)
        clear hacc hown hbl
        go_wp2_with fail
        go_ret2
        exact Hz.out
      · have h0' : 0 ≤ c' := by omega
        obtain ⟨i, rfl⟩ : ∃ i : Nat, c' = (i : Int) := ⟨c'.toNat, by omega⟩
        rw [wayR_step HS.out (by omega)] at hacc
        obtain ⟨b, off, hA, hat⟩ := (H.out.below ((Hb2.out.trans (hbl.mono Hb2.out.size)).mono hB)).at i (by omega)
        subst hA
        have hp := HS.out.par_in (k := i) (by omega)
        have hlw := Hlen.out (j : Int) (by omega)
        have hll := congrArg List.length hacc
        rw [List.length_append, List.length_cons] at hll
        have hal2 : acc.length + 1 ≤ 40 := by omega
        have Hacc := Lib.hid (show (acc ++ [i]) ++ wayR xs (pg xs i).par = wayR xs (j : Int) by rw [List.append_assoc]; exact hacc)
        have hil : (i : Int) < (xs.length : Int) := by omega
        have hz7 := hbl.size
        have hat2 := Lib.hid (fun wy hb => PcAt.below (w' := wy) hat hb)
        have q1 := hat.c1
        obtain ⟨hbB⟩ : PLift (b < B) := ⟨hat.lt⟩
        have HX := Lib.hid (fun wy (hy : Below w2.heap.size w2 wy) => (H.out.below ((Hb2.out.trans (hy.mono Hb2.out.size)).mono hB)).at i (by omega))
        clear hacc hown hbl hll hlw hat
        clear q1 hat2
        go_wp2_with (at_builtin; refine wpList_apd 29 2 _ 1 8 Tryd.underlying29 infoD rfl (by omega) _ _ rfl rfl w2.heap.size _ acc.length _ rfl Hown.out #[.int .i64 (i : Int)] 1 1 rfl rfl (by simp [Value.oneCell']) (by simp [maxLen]; omega) (by omega) hz7 ?_; intro v7 w7 hown7 hg7; have Hb7 := Lib.hid (below_apd Hbl.out Hown.out hg7 (Nat.le_refl _) hz7); obtain ⟨b', off', hA', hat'⟩ := HX.out w7 Hb7.out; obtain ⟨rfl, rfl⟩ := adr_inj hA'; have x1 := hat'.c1; have Ho7 := Lib.hid (show w7.ownsRow w2.heap.size 2 1 v7 (acc ++ [i]).length (natV (acc ++ [i])) by rw [natV_snoc, List.length_append]; exact hown7); clear hown7 hg7 hat')
        go_roundw
        case rel => exact ⟨(pg xs i).par, acc ++ [i], hp.1, by omega, rfl, Hacc.out, by rw [List.length_append]; exact hal2, Ho7.out, Hb7.out⟩
        case measure => first | (simp [intOf]; done) | (simp [intOf]; omega)
  · obtain ⟨c1, hc1⟩ : ∃ z, cdP xs k = z := ⟨_, rfl⟩
    have hv : paC xs k = [] := by unfold paC; rw [if_neg hd]
    rw [hc1] at HC hd ⊢
    rw [hv]
    have hcb : (c1 == 0) = false := by simp [hd]
    have hcb2 : (c1 != 0) = true := by simp [hd]
    clear hc1 hv
    go_enter Tryd.func10, Tryd.ntmps10
    go_wp2_with fail
    refine (HC.out).mono ?_; rintro e w2 ⟨rfl, hb2⟩
    have Hz := Lib.hid (RetNc.bad (l := []) (c := c1) rfl hb2)
    clear hb2
    go_wp2_with fail
    go_ret2
    exact Hz.out
set_option maxRecDepth 100000 in
set_option maxHeartbeats 1600000 in
theorem UnderS_any (B : Nat) (v : Value) (xs : List Pc) (k : Int) (w : World) (h : RdP w B v xs) (hB : B ≤ w.heap.size) (hn : xs.length ≤ 100000) (hz : szP xs) :
    Calls Tryd.prog 12 #[v, .int .i64 k] w (RetNc (uC xs k) (cdP xs k) w) := by
  have HC := Lib.hid (codeS_any B v xs k w h hB hn hz)
  have H := Lib.hid h
  obtain ⟨A, c, rfl⟩ := h.slice
  clear h hz
  by_cases hd : cdP xs k = 0
  · obtain ⟨hok, j, rfl, hj⟩ := cdP_ok hd
    obtain ⟨⟨_, hl40⟩, _, hsh, _⟩ := okP_ok hok
    have hv : uC xs (j : Int) = uL xs j xs.length := by unfold uC; rw [if_pos hd, Int.toNat_natCast]
    have Hv := Lib.hid hv
    have HU := Lib.hid (fun wx hx hz => l21Under_any B (.slice A xs.length c) xs j wx hx hz hl40 hsh hj)
    unfold RetBo at HU
    rw [hd] at HC ⊢
    clear hd hok hsh hv
    have hwj : IntKind.i64.wrap ((j : Int) + 1) = (j : Int) + 1 := IntWalk.i64_in _ (by omega)
    go_enter Tryd.func12, Tryd.ntmps12
    go_wp2_with fail
    refine (HC.out).mono ?_; rintro e w2 ⟨rfl, hb2⟩
    have Hb2 := Lib.hid hb2
    have HU2 := Lib.hid (HU.out w2 (H.out.below (hb2.mono hB)) (Nat.le_trans hB hb2.size))
    clear hb2 HU HC
    go_wp2_with fail
    refine (HU2.out).mono ?_; rintro e w3 ⟨cu, rfl, hou, hbu⟩
    have Hou := Lib.hid hou
    have Hb3 := Lib.hid (Hb2.out.trans (hbu.mono Hb2.out.size))
    have hoe := Lib.hid (World.ownsRow_made (base := w3.heap.size) (e := 2) (size := 1) w3 #[] 0 (Nat.le_refl _) (by simp [maxLen]) rfl)
    have hbe := Lib.hid ((Below.refl w3.heap.size w3).alloc (Nat.le_refl _) (.cells #[] 2))
    clear hou hbu HU2
    go_wp2_with fail
    clear hwj
    go_loopw [8, 9] (fun o i wr => ∃ m : Nat, j + 1 ≤ m ∧ m ≤ xs.length ∧ i = .int .i64 (m : Int) ∧ wr.ownsRow w3.heap.size 2 1 o (uL xs j m).length (natV (uL xs j m)) ∧ Below w3.heap.size w3 wr) (fun _ i _ => xs.length - (intOf i).toNat)
    case atStart => exact ⟨j + 1, Nat.le_refl _, by omega, by go_num, by rw [uL_start]; exact hoe.out, hbe.out⟩
    case round =>
      obtain ⟨m, hm1, hm2, rfl, hown, hbl⟩ := hrel
      clear hoe hbe
      obtain ⟨A3, c3, rfl⟩ := own_sl hown
      have Hown := Lib.hid hown
      have Hbl := Lib.hid hbl
      by_cases hlt : m < xs.length
      · have hlt' : (m : Int) < (xs.length : Int) := by omega
        obtain ⟨y0, y1⟩ := own_cellB (own_below Hou.out hbl) m hlt
        have hll := uL_len xs j m
        have hz7 := hbl.size
        clear hown hbl
        cases hu : und xs j m with
        | false =>
          have E2 := Lib.hid (uL_no (k := j) hu)
          rw [hu] at y0
          clear hu
          go_wp2_with fail
          go_roundw
          case rel => exact ⟨m + 1, by omega, by omega, by go_num, by rw [E2.out]; exact Hown.out, Hbl.out⟩
          case measure => first | (simp [intOf]; done) | (simp [intOf]; omega)
        | true =>
          have E2 := Lib.hid (uL_yes (show j < m by omega) hu)
          rw [hu] at y0
          clear hu
          go_wp2_with (at_builtin; refine wpList_apd 29 2 _ 1 8 Tryd.underlying29 infoD rfl (by omega) _ _ rfl rfl w3.heap.size _ (uL xs j m).length _ rfl Hown.out #[.int .i64 (m : Int)] 1 1 rfl rfl (by simp [Value.oneCell']) (by simp [maxLen]; omega) (by omega) hz7 ?_; intro v7 w7 hown7 hg7; have Hb7 := Lib.hid (below_apd Hbl.out Hown.out hg7 (Nat.le_refl _) hz7); have Ho7 := Lib.hid (show w7.ownsRow w3.heap.size 2 1 v7 (uL xs j (m + 1)).length (natV (uL xs j (m + 1))) by rw [E2.out, natV_snoc, List.length_append]; exact hown7); clear hown7 hg7)
          go_roundw
          case rel => exact ⟨m + 1, by omega, by omega, by go_num, Ho7.out, Hb7.out⟩
          case measure => first | (simp [intOf]; done) | (simp [intOf]; omega)
      · obtain rfl : m = xs.length := by omega
        have hlt' : ¬ ((xs.length : Int) < (xs.length : Int)) := by omega
        have Hz := Lib.hid (show RetNc (uC xs (j : Int)) 0 w (.returned (.tuple #[.slice A3 (uL xs j xs.length).length c3, .int .i64 0])) wr from ⟨_, rfl, by rw [Hv.out]; exact own_lower hown Hb3.out.size, Hb3.out.trans (hbl.mono Hb3.out.size)⟩)
        clear hown hbl
        go_wp2_with fail
        go_ret2
        exact Hz.out
  · obtain ⟨c1, hc1⟩ : ∃ z, cdP xs k = z := ⟨_, rfl⟩
    have hv : uC xs k = [] := by unfold uC; rw [if_neg hd]
    rw [hc1] at HC hd ⊢
    rw [hv]
    have hcb : (c1 == 0) = false := by simp [hd]
    have hcb2 : (c1 != 0) = true := by simp [hd]
    clear hc1 hv
    go_enter Tryd.func12, Tryd.ntmps12
    go_wp2_with fail
    refine (HC.out).mono ?_; rintro e w2 ⟨rfl, hb2⟩
    have Hz := Lib.hid (RetNc.bad (l := []) (c := c1) rfl hb2)
    clear hb2
    go_wp2_with fail
    go_ret2
    exact Hz.out
end Go.Proofs.YtepgfcjfdnakbaaDoor
