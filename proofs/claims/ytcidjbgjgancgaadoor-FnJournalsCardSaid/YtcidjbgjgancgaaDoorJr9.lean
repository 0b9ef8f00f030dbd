/- Journals, part 9: whole journals; AppendNote, NotesOf. -/
import Derived.Test.YtcidjbgjgancgaaDoorJr8
namespace Go.Proofs.YtcidjbgjgancgaaDoor
open Go.RowKit Go.Joins

def codeJ (s : ByteArray) : Int := if 4000 < s.size then 5 else if (readJ s).at_ < s.size then 8 else 0
def WholeI (w : World) (s : ByteArray) (e : Ending) (w' : World) : Prop :=
  ∃ p, e = .returned (.tuple #[p, .int .i64 (codeJ s)]) ∧ (codeJ s = 0 → ∃ g, p = .pointer (some ⟨g, 0, none⟩) ∧ JAt w' w.heap.size g (readJ s) ∧ s.size ≤ 4000) ∧ Below w.heap.size w w'
def WholeS (w : World) (s : ByteArray) (e : Ending) (w' : World) : Prop :=
  ∃ p, e = .returned (.tuple #[p, .int .i64 (codeJ s)]) ∧ (codeJ s = 0 → ∃ g, p = .pointer (some ⟨g, 0, none⟩) ∧ LAt w' w.heap.size g s (readJ s) ∧ s.size ≤ 4000) ∧ Below w.heap.size w w'

theorem wholeI_any (s : ByteArray) (w : World) (hs : s.size ≤ 1048576) (ht : Tab w) :
    Calls Tryd.prog 39 #[.string s] w (WholeI w s) := by
  have Ht := Lib.hid ht; clear ht
  by_cases h : 4000 < s.size
  · have e1 := Lib.hid (show codeJ s = 5 by simp [codeJ, h])
    have hb0 := Below.refl w.heap.size w
    go_enter Tryd.func39, Tryd.ntmps39
    go_wp2_with fail
    go_ret2
    unfold WholeI; rw [e1.out]; exact ⟨_, rfl, fun h0 => absurd h0 (by decide), hb0⟩
  · have hat := (readJ_way s).2.1
    by_cases h2 : (readJ s).at_ < s.size
    · have e1 := Lib.hid (show codeJ s = 8 by simp [codeJ, h, h2])
      go_enter Tryd.func39, Tryd.ntmps39
      go_wp2_with fail
      refine (readJournal_any s _ (by omega) Ht.out).mono ?_; rintro e w1 ⟨g, rfl, ⟨nv, hl, _, _⟩, hb⟩
      obtain ⟨_, _, hc2, _⟩ := hl.cells
      clear hl
      go_wp2_with fail
      go_ret2
      unfold WholeI; rw [e1.out]; exact ⟨_, rfl, fun h0 => absurd h0 (by decide), hb⟩
    · have e1 := Lib.hid (show codeJ s = 0 by simp [codeJ, h, h2])
      go_enter Tryd.func39, Tryd.ntmps39
      go_wp2_with fail
      refine (readJournal_any s _ (by omega) Ht.out).mono ?_; rintro e w1 ⟨g, rfl, hj, hb⟩
      have Hj := Lib.hid hj
      obtain ⟨nv, hl, _, _⟩ := hj
      obtain ⟨_, _, hc2, _⟩ := hl.cells
      clear hl
      go_wp2_with fail
      go_ret2
      unfold WholeI; rw [e1.out]; exact ⟨_, rfl, fun _ => ⟨g, rfl, Hj.out, by omega⟩, hb⟩

theorem wholeS_any (s : ByteArray) (w : World) (hs : s.size ≤ 1048576) :
    Calls Tryd.prog 37 #[.string s] w (WholeS w s) := by
  by_cases h : 4000 < s.size
  · have e1 := Lib.hid (show codeJ s = 5 by simp [codeJ, h])
    have hb0 := fun o => (Below.refl w.heap.size w).alloc (Nat.le_refl _) o
    go_enter Tryd.func37, Tryd.ntmps37
    go_wp2_with fail
    go_ret2
    unfold WholeS; rw [e1.out]; exact ⟨_, rfl, fun h0 => absurd h0 (by decide), hb0 _⟩
  · have hat := (readJ_way s).2.1
    by_cases h2 : (readJ s).at_ < s.size
    · have e1 := Lib.hid (show codeJ s = 8 by simp [codeJ, h, h2])
      have hb1 : (((readJ s).at_ : Int) != (s.size : Int)) = true := by simp; omega
      go_enter Tryd.func37, Tryd.ntmps37
      go_wp2_with fail
      refine (l26Read_any s _ (by omega)).mono ?_; rintro e w1 ⟨g, rfl, ⟨nv, hl, _, _⟩, hb⟩
      obtain ⟨_, hc1, _⟩ := hl.cells
      clear hl
      go_wp2_with fail
      go_ret2
      unfold WholeS; rw [e1.out]; exact ⟨_, rfl, fun h0 => absurd h0 (by decide), hb⟩
    · have e1 := Lib.hid (show codeJ s = 0 by simp [codeJ, h, h2])
      have hb1 : (((readJ s).at_ : Int) != (s.size : Int)) = false := by simp; omega
      go_enter Tryd.func37, Tryd.ntmps37
      go_wp2_with fail
      refine (l26Read_any s _ (by omega)).mono ?_; rintro e w1 ⟨g, rfl, hj, hb⟩
      have Hj := Lib.hid hj
      obtain ⟨nv, hl, _, _⟩ := hj
      obtain ⟨_, hc1, _⟩ := hl.cells
      clear hl
      go_wp2_with fail
      go_ret2
      unfold WholeS; rw [e1.out]; exact ⟨_, rfl, fun _ => ⟨g, rfl, Hj.out, by omega⟩, hb⟩

/-- the notes that are handed back -/
def notesV (s : ByteArray) : List ByteArray := if codeJ s = 0 then (readJ s).notes else []
theorem notes_len (s : ByteArray) : (notesV s).length ≤ 4000 := by
  have hw := readJ_way s
  unfold notesV
  split
  · next h =>
    unfold codeJ at h
    split at h
    · omega
    · have := hw.2.1; have := hw.2.2.1; omega
  · simp
def RetNotes (w : World) (s : ByteArray) (e : Ending) (w' : World) : Prop :=
  ∃ v, e = .returned (.tuple #[v, .int .i64 (codeJ s)]) ∧ w'.ownsRow w.heap.size 9 1 v (notesV s).length (strs (notesV s)) ∧ Below w.heap.size w w'

theorem NotesI (s : ByteArray) (w : World) (hs : s.size ≤ 1048576) (ht : Tab w) :
    Calls Tryd.prog 22 #[.string s] w (RetNotes w s) := by
  have HW := Lib.hid (wholeI_any s w hs ht); clear ht
  by_cases h : codeJ s = 0
  · have hv := Lib.hid (show notesV s = (readJ s).notes by simp [notesV, h])
    have H := Lib.hid h; clear h
    go_enter Tryd.func22, Tryd.ntmps22
    go_wp2_with fail
    refine HW.out.mono ?_; rintro e w1 ⟨p, rfl, hp, hb⟩
    obtain ⟨g, rfl, ⟨nv, hl, ho, _⟩, _⟩ := hp H.out
    obtain ⟨hc0, _⟩ := hl.cells
    rw [H.out]
    have Ho := Lib.hid ho
    clear hl hp ho
    go_wp2_with fail
    go_ret2
    unfold RetNotes; rw [H.out, hv.out]; exact ⟨_, rfl, Ho.out, hb⟩
  · have hv := Lib.hid (show notesV s = [] by simp [notesV, h])
    have hb1 : (codeJ s != 0) = true := by simp [h]
    go_enter Tryd.func22, Tryd.ntmps22
    go_wp2_with fail
    refine HW.out.mono ?_; rintro e w1 ⟨p, rfl, _, hb⟩
    go_wp2_with fail
    go_ret2
    exact ⟨_, rfl, by rw [hv.out]; exact World.ownsRow_nil _ _ _ _, hb⟩

theorem NotesS (s : ByteArray) (w : World) (hs : s.size ≤ 1048576) :
    Calls Tryd.prog 21 #[.string s] w (RetNotes w s) := by
  have HW := Lib.hid (wholeS_any s w hs)
  by_cases h : codeJ s = 0
  · have hv := Lib.hid (show notesV s = (readJ s).notes by simp [notesV, h])
    have H := Lib.hid h; clear h
    go_enter Tryd.func21, Tryd.ntmps21
    go_wp2_with fail
    refine HW.out.mono ?_; rintro e w1 ⟨p, rfl, hp, hb⟩
    obtain ⟨g, rfl, ⟨nv, hl, ho, _⟩, _⟩ := hp H.out
    obtain ⟨_, _, _, hc3, _⟩ := hl.cells
    rw [H.out]
    have Ho := Lib.hid ho
    clear hl hp ho
    go_wp2_with fail
    go_ret2
    unfold RetNotes; rw [H.out, hv.out]; exact ⟨_, rfl, Ho.out, hb⟩
  · have hv := Lib.hid (show notesV s = [] by simp [notesV, h])
    have hb1 : (codeJ s != 0) = true := by simp [h]
    go_enter Tryd.func21, Tryd.ntmps21
    go_wp2_with fail
    refine HW.out.mono ?_; rintro e w1 ⟨p, rfl, _, hb⟩
    go_wp2_with fail
    go_ret2
    exact ⟨_, rfl, by rw [hv.out]; exact World.ownsRow_nil _ _ _ _, hb⟩

set_option maxHeartbeats 800000 in
theorem walkFnExactNotesOf (s : ByteArray) (_ws : s.size ≤ maxLen) (w : World) (ht : Tab w) :
    Calls Tryd.prog 7 #[.string s] w fun e w' => e = .returned (.bool true) ∧ Below w.heap.size w w' := by
  have hb0 := Below.refl w.heap.size w
  by_cases h : s.size ≤ 1048576
  · have HS := Lib.hid (fun w => NotesS s w h)
    have HI := Lib.hid (fun w ht => NotesI s w h ht)
    have hlen := notes_len s
    have Ht := Lib.hid ht; clear ht hb0
    unfold RetNotes at HS HI
    generalize notesV s = ns at *
    generalize codeJ s = c at *
    go_enter Tryd.func7, Tryd.ntmps7
    go_wp2_with fail
    refine (HS.out _).mono ?_; rintro e w1 ⟨v1, rfl, ho1, hb1⟩
    go_wp2_with fail
    refine (HI.out _ (Ht.out.below hb1)).mono ?_; rintro e w2 ⟨v2, rfl, ho2, hb2⟩
    have ho1' := own_below ho1 hb2
    go_wp2_with fail
    refine (eqStringS_same _ _ v2 v1 ns ns.length _ rfl (Rd.of_own ho2) (Rd.of_own ho1') (by omega)).mono ?_
    rintro e w3 ⟨rfl, n3, rfl⟩
    have hb02 := hb1.trans (hb2.mono hb1.size)
    go_wp2_with fail
    refine (markStringS_any _ v2 1 ns.length _ _ (ho2.drewN n3) (by omega) (by omega)).mono ?_
    rintro e w4 ⟨rfl, hg4, ho4⟩
    have hb04 : Below w.heap.size w w4 := (below_drewN hb02 n3).grown hg4 hb02.size (fun k hk => Nat.le_trans hb1.size (ho2.lt k hk).1)
    have ho14 : w4.ownsRow _ 9 1 v1 ns.length (strs ns) := (ho1'.drewN n3).kept hg4 (by
      rcases hv : v1.ownBlock with _ | k
      · exact .inl rfl
      · refine .inr (fun h => ?_)
        have h1 := (ho1.lt k hv).2
        have h2 := (ho2.lt k h.symm).1
        omega)
    go_wp2_with fail
    refine (heldStringS_any _ v2 1 ns.length _ (Rd.of_own ho4) (Nat.le_refl _) (by omega) (by omega)).mono ?_
    rintro e w5 ⟨rfl, hb5⟩
    have hb05 := hb04.trans (hb5.mono hb04.size)
    have ho15 := own_below ho14 hb5
    have ho45 := own_below ho4 hb5
    go_wp2_with fail
    refine (HI.out _ (Ht.out.below hb05)).mono ?_; rintro e w6 ⟨v6, rfl, ho6, hb6⟩
    have hb06 := hb05.trans (hb6.mono hb05.size)
    have ho16 := own_below ho15 hb6
    have ho46 := own_below ho45 hb6
    go_wp2_with fail
    refine (eqStringS_same _ _ v6 v1 ns ns.length _ rfl (Rd.of_own ho6) (Rd.of_own ho16) (by omega)).mono ?_
    rintro e w7 ⟨rfl, n7, rfl⟩
    have hb07 := below_drewN hb06 n7
    go_wp2_with fail
    refine (heldStringS_any _ v2 1 ns.length _ (Rd.of_own (ho46.drewN n7)) (Nat.le_refl _) (by omega) (by omega)).mono ?_
    rintro e w8 ⟨rfl, hb8⟩
    have hb08 := hb07.trans (hb8.mono hb07.size)
    go_wp2_with fail
    go_ret
    exact ⟨rfl, hb08⟩
  · clear ht
    go_enter Tryd.func7, Tryd.ntmps7
    go_wp2_with fail
    go_ret
    exact ⟨rfl, hb0⟩
end Go.Proofs.YtcidjbgjgancgaaDoor
