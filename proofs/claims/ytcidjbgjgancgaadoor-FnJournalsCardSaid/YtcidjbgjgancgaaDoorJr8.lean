/- Journals, part 8: l26Read; CheckJournal, RecoverJournal. -/
import Derived.Test.YtcidjbgjgancgaaDoorJr5
import Derived.Test.YtcidjbgjgancgaaDoorJr7
namespace Go.Proofs.YtcidjbgjgancgaaDoor
open Go.RowKit Go.Joins

set_option maxHeartbeats 1000000 in
theorem l26Read_any (s : ByteArray) (w : World) (hs : s.size ≤ 4000) :
    Calls Tryd.prog 31 #[.string s] w fun e w' => ∃ g, e = .returned (.pointer (some ⟨g, 0, none⟩)) ∧ LAt w' w.heap.size g s (readJ s) ∧ Below w.heap.size w w' := by
  go_enter Tryd.func31, Tryd.ntmps31
  go_wp2_with fail
  go_loopg [8] s.size (fun k _ wr => ∃ (st : JSt), OnWay s st ∧ st.at_ + k = s.size ∧ LAt wr w.heap.size (w.heap.size + 1) s st ∧ Below w.heap.size w wr)
  case atStart =>
    exact ⟨⟨0, 0, []⟩, OnWay.start s, by simp, ⟨_, Lr.new _ _ _ _, (World.ownsRow_made w #[] 0 (Nat.le_refl _) (by simp [maxLen]) rfl).alloc _, by omega⟩, ((Below.refl _ _).alloc (Nat.le_refl _) _).alloc (by simp) _⟩
  case round =>
    obtain ⟨st, hway, hk, hla, hbl⟩ := hrel
    have Hway := Lib.hid hway; clear hway
    have Hla := Lib.hid hla; clear hla
    have Hk := Lib.hid hk; clear hk
    go_wp2_with fail
    refine (line_any w.heap.size (w.heap.size + 1) s st _ Hla.out Hway.out hs hbl.size).mono ?_
    rintro e w1 ⟨hb1, ⟨rfl, hr, hl1⟩ | ⟨st', rfl, hw', hlt, hl1⟩⟩
    · have hbl1 := hbl.trans hb1
      have Hr := Lib.hid hr; clear hr
      have Hl1 := Lib.hid hl1; clear hl1
      go_wp2_with fail
      go_ret
      rw [Hr.out]
      exact ⟨_, rfl, Hl1.out, hbl1⟩
    · have hbl1 := hbl.trans hb1
      have Hl1 := Lib.hid hl1; clear hl1
      have Hw := Lib.hid hw'; clear hw'
      have Hlt := Lib.hid hlt; clear hlt
      go_wp2_with fail
      go_roundg (s.size - st'.at_)
      case measure => have := Hlt.out; have := Hk.out; have := Hw.out.2.1; omega
      case rel => exact ⟨st', Hw.out, by have := Hw.out.2.1; omega, Hl1.out, hbl1⟩

/-- what the four functions hand back -/
def chkA (s : ByteArray) : Int := if 4000 < s.size then 0 else (readJ s).at_
def chkC (s : ByteArray) : Int := if 4000 < s.size then 5 else 0
def recS (s : ByteArray) : ByteArray := if 4000 < s.size then ⟨#[]⟩ else s.extract 0 (readJ s).at_
def recN (s : ByteArray) : Int := if 4000 < s.size then 0 else (s.size : Int) - (readJ s).at_

theorem CheckS (s : ByteArray) (w : World) (hs : s.size ≤ 1048576) :
    Calls Tryd.prog 10 #[.string s] w fun e w' => e = .returned (.tuple #[.int .i64 (chkA s), .int .i64 (chkC s)]) ∧ Below w.heap.size w w' := by
  by_cases h : 4000 < s.size
  · have e1 := Lib.hid (show chkA s = 0 by simp [chkA, h])
    have e2 := Lib.hid (show chkC s = 5 by simp [chkC, h])
    have hb0 := Below.refl w.heap.size w
    go_enter Tryd.func10, Tryd.ntmps10
    go_wp2_with fail
    go_ret2
    rw [e1.out, e2.out]; exact ⟨rfl, hb0⟩
  · have e1 := Lib.hid (show chkA s = (readJ s).at_ by simp [chkA, h])
    have e2 := Lib.hid (show chkC s = 0 by simp [chkC, h])
    go_enter Tryd.func10, Tryd.ntmps10
    go_wp2_with fail
    refine (l26Read_any s _ (by omega)).mono ?_; rintro e w1 ⟨g, rfl, ⟨nv, hl, _, _⟩, hb⟩
    obtain ⟨_, hc1, _⟩ := hl.cells
    clear hl
    go_wp2_with fail
    go_ret2
    rw [e1.out, e2.out]; exact ⟨rfl, hb⟩

theorem CheckI (s : ByteArray) (w : World) (hs : s.size ≤ 1048576) (ht : Tab w) :
    Calls Tryd.prog 11 #[.string s] w fun e w' => e = .returned (.tuple #[.int .i64 (chkA s), .int .i64 (chkC s)]) ∧ Below w.heap.size w w' := by
  have Ht := Lib.hid ht; clear ht
  by_cases h : 4000 < s.size
  · have e1 := Lib.hid (show chkA s = 0 by simp [chkA, h])
    have e2 := Lib.hid (show chkC s = 5 by simp [chkC, h])
    have hb0 := Below.refl w.heap.size w
    go_enter Tryd.func11, Tryd.ntmps11
    go_wp2_with fail
    go_ret2
    rw [e1.out, e2.out]; exact ⟨rfl, hb0⟩
  · have e1 := Lib.hid (show chkA s = (readJ s).at_ by simp [chkA, h])
    have e2 := Lib.hid (show chkC s = 0 by simp [chkC, h])
    go_enter Tryd.func11, Tryd.ntmps11
    go_wp2_with fail
    refine (readJournal_any s _ (by omega) Ht.out).mono ?_; rintro e w1 ⟨g, rfl, ⟨nv, hl, _, _⟩, hb⟩
    obtain ⟨_, _, hc2, _⟩ := hl.cells
    clear hl
    go_wp2_with fail
    go_ret2
    rw [e1.out, e2.out]; exact ⟨rfl, hb⟩

theorem RecS (s : ByteArray) (w : World) (hs : s.size ≤ 1048576) :
    Calls Tryd.prog 12 #[.string s] w fun e w' => e = .returned (.tuple #[.string (recS s), .int .i64 (recN s), .int .i64 (chkC s)]) ∧ Below w.heap.size w w' := by
  by_cases h : 4000 < s.size
  · have e1 := Lib.hid (show recS s = ⟨#[]⟩ by simp [recS, h])
    have e3 := Lib.hid (show recN s = 0 by simp [recN, h])
    have e2 := Lib.hid (show chkC s = 5 by simp [chkC, h])
    have hb0 := Below.refl w.heap.size w
    go_enter Tryd.func12, Tryd.ntmps12
    go_wp2_with fail
    go_ret3
    rw [e1.out, e2.out, e3.out]; exact ⟨rfl, hb0⟩
  · have e1 := Lib.hid (show recS s = s.extract 0 (readJ s).at_ by simp [recS, h])
    have e3 := Lib.hid (show recN s = (s.size : Int) - (readJ s).at_ by simp [recN, h])
    have e2 := Lib.hid (show chkC s = 0 by simp [chkC, h])
    have hat := (readJ_way s).2.1
    go_enter Tryd.func12, Tryd.ntmps12
    go_wp2_with fail
    refine (l26Read_any s _ (by omega)).mono ?_; rintro e w1 ⟨g, rfl, ⟨nv, hl, _, _⟩, hb⟩
    obtain ⟨_, hc1, _⟩ := hl.cells
    clear hl
    generalize (readJ s).at_ = n at *
    go_wp2_with fail
    go_ret3
    rw [e1.out, e2.out, e3.out]; exact ⟨rfl, hb⟩

theorem RecI (s : ByteArray) (w : World) (hs : s.size ≤ 1048576) (ht : Tab w) :
    Calls Tryd.prog 13 #[.string s] w fun e w' => e = .returned (.tuple #[.string (recS s), .int .i64 (recN s), .int .i64 (chkC s)]) ∧ Below w.heap.size w w' := by
  have Ht := Lib.hid ht; clear ht
  by_cases h : 4000 < s.size
  · have e1 := Lib.hid (show recS s = ⟨#[]⟩ by simp [recS, h])
    have e3 := Lib.hid (show recN s = 0 by simp [recN, h])
    have e2 := Lib.hid (show chkC s = 5 by simp [chkC, h])
    have hb0 := Below.refl w.heap.size w
    go_enter Tryd.func13, Tryd.ntmps13
    go_wp2_with fail
    go_ret3
    rw [e1.out, e2.out, e3.out]; exact ⟨rfl, hb0⟩
  · have e1 := Lib.hid (show recS s = s.extract 0 (readJ s).at_ by simp [recS, h])
    have e3 := Lib.hid (show recN s = (s.size : Int) - (readJ s).at_ by simp [recN, h])
    have e2 := Lib.hid (show chkC s = 0 by simp [chkC, h])
    have hat := (readJ_way s).2.1
    go_enter Tryd.func13, Tryd.ntmps13
    go_wp2_with fail
    refine (readJournal_any s _ (by omega) Ht.out).mono ?_; rintro e w1 ⟨g, rfl, ⟨nv, hl, _, _⟩, hb⟩
    obtain ⟨_, _, hc2, _⟩ := hl.cells
    clear hl
    generalize (readJ s).at_ = n at *
    go_wp2_with fail
    go_ret3
    rw [e1.out, e2.out, e3.out]; exact ⟨rfl, hb⟩

set_option maxHeartbeats 400000 in
theorem walkFnExactCheckJournal (s : ByteArray) (_ws : s.size ≤ maxLen) (w : World) (ht : Tab w) :
    Calls Tryd.prog 3 #[.string s] w fun e w' => e = .returned (.bool true) ∧ Below w.heap.size w w' := by
  have hb0 := Below.refl w.heap.size w
  by_cases h : s.size ≤ 1048576
  · have HS := Lib.hid (fun w => CheckS s w h)
    have HI := Lib.hid (fun w ht => CheckI s w h ht)
    have Ht := Lib.hid ht; clear ht
    generalize chkA s = x at *
    generalize chkC s = y at *
    go_enter Tryd.func3, Tryd.ntmps3
    go_wp2_with fail
    refine (HS.out _).mono ?_; rintro e w1 ⟨rfl, hb1⟩
    go_wp2_with fail
    refine (HI.out _ (Ht.out.below hb1)).mono ?_; rintro e w2 ⟨rfl, hb2⟩
    have hb := hb1.trans (hb2.mono hb1.size)
    clear hb1 hb2
    go_wp2_with fail
    go_ret
    exact ⟨rfl, hb⟩
  · clear ht
    go_enter Tryd.func3, Tryd.ntmps3
    go_wp2_with fail
    go_ret
    exact ⟨rfl, hb0⟩

set_option maxHeartbeats 400000 in
theorem walkFnExactRecoverJournal (s : ByteArray) (_ws : s.size ≤ maxLen) (w : World) (ht : Tab w) :
    Calls Tryd.prog 4 #[.string s] w fun e w' => e = .returned (.bool true) ∧ Below w.heap.size w w' := by
  have hb0 := Below.refl w.heap.size w
  by_cases h : s.size ≤ 1048576
  · have HS := Lib.hid (fun w => RecS s w h)
    have HI := Lib.hid (fun w ht => RecI s w h ht)
    have Ht := Lib.hid ht; clear ht
    generalize recS s = x at *
    generalize recN s = z at *
    generalize chkC s = y at *
    go_enter Tryd.func4, Tryd.ntmps4
    go_wp2_with fail
    refine (HS.out _).mono ?_; rintro e w1 ⟨rfl, hb1⟩
    go_wp2_with fail
    refine (HI.out _ (Ht.out.below hb1)).mono ?_; rintro e w2 ⟨rfl, hb2⟩
    have hb := hb1.trans (hb2.mono hb1.size)
    clear hb1 hb2
    go_wp2_with fail
    go_ret
    exact ⟨rfl, hb⟩
  · clear ht
    go_enter Tryd.func4, Tryd.ntmps4
    go_wp2_with fail
    go_ret
    exact ⟨rfl, hb0⟩
end Go.Proofs.YtcidjbgjgancgaaDoor
