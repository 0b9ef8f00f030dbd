/- Fewest turns, part 2: turns made by the program. -/
import Derived.Test.YtddiielbmjkppaaFew1
import Derived.Test.YtddiielbmjkppaaDf6
import Derived.Test.YtddiielbmjkppaaLib5
import Derived.Test.YtddiielbmjkppaaDd1
namespace Go.Proofs.Ytddiielbmjkppaa
open Go.RowKit Go.Joins

theorem isBase_ok (b : Nat) (w : World) (h1 : 2 ≤ b) (h2 : b ≤ 16) : Calls Try.prog 215 #[.int .i64 (b : Int)] w fun e w' => e = .returned (.bool true) ∧ w = w' := by
  have HB := Lib.hid (fun wx => between_any (b : Int) 2 16 wx)
  rw [inB_true (by omega) (by omega)] at HB
  go_enter Try.func215, Try.ntmps215
  go_wp2_with fail
  refine (HB.out _).mono ?_; rintro e w1 ⟨rfl, rfl⟩
  go_wp2_with fail
  go_ret
  exact ⟨rfl, rfl⟩
theorem isTurnsInput_any (b n : Nat) (w : World) (h1 : 2 ≤ b) (h2 : b ≤ 16) (hn : n ≤ 62500000) : Calls Try.prog 193 #[.int .i64 (b : Int), .int .i64 (n : Int)] w fun e w' => e = .returned (.bool true) ∧ w = w' := by
  have HB := Lib.hid (fun wx => between_any (n : Int) 0 62500000 wx)
  rw [inB_true (by omega) (by omega)] at HB
  have HI := Lib.hid (fun wx => isBase_ok b wx h1 h2)
  go_enter Try.func193, Try.ntmps193
  go_wp2_with fail
  refine (HI.out _).mono ?_; rintro e w1 ⟨rfl, rfl⟩
  go_wp2_with fail
  refine (HB.out _).mono ?_; rintro e w1 ⟨rfl, rfl⟩
  go_wp2_with fail
  go_ret
  exact ⟨rfl, rfl⟩
def nmV (l : List Int) : List Value := l.map (Value.int .i64)
def at0 (l : List Int) (i : Nat) : Int := l.getD i 0
theorem nmV_tab (l : List Int) : nmV l = tab l.length (at0 l) := by
  refine List.ext_getElem (by simp [nmV, tab]) fun i h1 h2 => ?_
  have : i < l.length := by simpa [nmV] using h1
  simp [nmV, tab, at0, List.getD, this]
theorem nmV_app (l : List Int) (x : Int) : nmV (l ++ [x]) = nmV l ++ [.int .i64 x] := by simp [nmV]
/-- a list of numbers of the call's own is handed back -/
def RetL (w : World) (l : List Int) (e : Ending) (w' : World) : Prop :=
  ∃ v, e = .returned v ∧ w'.ownsRow w.heap.size 2 1 v l.length (nmV l) ∧ Below w.heap.size w w'
theorem few_len {b N : Nat} (hb : 2 ≤ b) (hN : N ≤ 62500000) : (few b N).length ≤ 28 := gn_len (nxF_lt hb) (nxF_half hb) 26 N (by omega)
theorem pln_len {b N : Nat} (hb : 2 ≤ b) (hN : N ≤ 62500000) : (pln b N).length ≤ 28 := gn_len (nxP_lt hb) (nxP_half hb) 26 N (by omega)

set_option maxRecDepth 100000 in
set_option maxHeartbeats 1600000 in
theorem plainTurns_any (b N : Nat) (w : World) (hb : 2 ≤ b) (hb2 : b ≤ 16) (hN : N ≤ 62500000) : Calls Try.prog 195 #[.int .i64 (b : Int), .int .i64 (N : Int)] w (RetL w (pln b N)) := by
  have Hlen := Lib.hid (pln_len hb hN)
  have hb0 := Lib.hid ((Below.refl w.heap.size w).alloc (Nat.le_refl _) (.cells #[] 2))
  have ho0 := Lib.hid (World.ownsRow_made (base := w.heap.size) (e := 2) (size := 1) w #[] 0 (Nat.le_refl _) (by simp [maxLen]) rfl)
  go_enter Try.func195, Try.ntmps195
  go_wp2_with fail
  go_loopw [5, 6] (fun a i wr => ∃ (acc : List Int) (m : Nat), acc ++ pln b m = pln b N ∧ m ≤ N ∧ i = .int .i64 (m : Int) ∧ wr.ownsRow w.heap.size 2 1 a acc.length (nmV acc) ∧ Below w.heap.size w wr) (fun _ i _ => (intOf i).toNat)
  case atStart => exact ⟨[], N, rfl, Nat.le_refl _, rfl, ho0.out, hb0.out⟩
  case round =>
    obtain ⟨acc, m, heq, hmN, rfl, hown, hbl⟩ := hrel
    obtain ⟨A3, c3, rfl⟩ := own_sl hown
    have Hown := Lib.hid hown
    have Hbl := Lib.hid hbl
    have Heq := Lib.hid heq
    have hal : acc.length ≤ 28 := by have := congrArg List.length heq; rw [List.length_append] at this; have := Hlen.out; omega
    clear hown hbl heq
    by_cases hm : m = 0
    · subst hm
      go_wp2_with fail
      go_ret
      have := Heq.out
      rw [show pln b 0 = [] from rfl, List.append_nil] at this
      exact ⟨_, rfl, by rw [← this]; exact Hown.out, Hbl.out⟩
    · have hm' : (0 : Int) < (m : Int) := by omega
      have hlt := nxP_lt hb m (by omega)
      have Hst := Lib.hid (show (acc ++ [dgP b m]) ++ pln b (nxP b m) = pln b N by rw [← Heq.out, List.append_assoc]; congr 1; exact (gn_pos (nxP_lt hb) (by omega)).symm)
      have Hsc := Lib.hid (nmV_app acc (dgP b m))
      have e1 : Int.tmod (m : Int) (b : Int) = dgP b m := by rw [Int.tmod_eq_emod_of_nonneg (by omega)]; exact (Int.natCast_emod _ _).symm
      have e2 : Int.tdiv (m : Int) (b : Int) = (nxP b m : Int) := by rw [Int.tdiv_eq_ediv_of_nonneg (by omega)]; exact (Int.natCast_ediv _ _).symm
      have e3 : (m : Int) % (b : Int) = dgP b m := (Int.natCast_emod _ _).symm
      have e4 : (m : Int) / (b : Int) = (nxP b m : Int) := (Int.natCast_ediv _ _).symm
      have hd := dgP_bd hb m
      generalize dgP b m = d at *
      generalize nxP b m = q at *
      have hb0' : (b : Int) ≠ 0 := by omega
      have hqb : (q : Int) ≤ 62500000 := by omega
      have hl' : (acc ++ [d]).length = acc.length + 1 := by simp
      have Hl' := Lib.hid hl'
      generalize hL : acc.length = L at *
      clear hl'
      go_wp2_with (at_builtin; refine wpList_apd 24 2 _ 1 8 Try.underlying24 infoD rfl (by omega) _ _ rfl rfl w.heap.size _ L _ rfl Hown.out #[.int .i64 (d)] 1 1 rfl rfl (by simp [Value.oneCell']) (by simp [maxLen]; omega) (by omega) Hbl.out.size ?_; intro v7 w7 hown7 hg7; have Hb7 := Lib.hid (below_apd Hbl.out Hown.out hg7 (Nat.le_refl _) Hbl.out.size); obtain ⟨A7, c7, rfl⟩ := own_sl hown7; have Hown7 := Lib.hid hown7; clear hown7 hg7)
      go_roundw
      case rel => exact ⟨acc ++ [d], q, Hst.out, by omega, rfl, by rw [Hsc.out, Hl'.out]; exact Hown7.out, Hb7.out⟩
      case measure => simp [intOf]; omega
end Go.Proofs.Ytddiielbmjkppaa
