/- Journals, part 4: what a reading of a journal is, step by step. -/
import Derived.Test.YtcidjbgjgancgaaDoorJr3
namespace Go.Proofs.YtcidjbgjgancgaaDoor
open Go.RowKit Go.Joins

structure JSt where
  at_ : Nat
  sum : Int
  notes : List ByteArray
def restOf (s : ByteArray) (a : Nat) : ByteArray := s.extract a s.size
def headOf (r : ByteArray) : ByteArray := r.extract 0 (fnd 10 r)
def tailOf (c : UInt8) (s : ByteArray) : ByteArray := s.extract (fnd c s + 1) s.size
def noteOf (l : ByteArray) : ByteArray := tailOf 32 (tailOf 32 l)
def two (l : ByteArray) : Bool := decide (fnd 32 l < l.size) && decide (fnd 32 (tailOf 32 l) < (tailOf 32 l).size)
/-- what a line must be -/
def goodJ (n : Nat) (sum : Int) (l : ByteArray) : Bool := two l && noteOk (noteOf l).data.toList && decide (lineS ((n : Int) + 1) (noteSum sum ((n : Int) + 1) (noteOf l).data.toList) (noteOf l) = l ++ ⟨#[10]⟩)
def stepJ (s : ByteArray) (st : JSt) : Option JSt :=
  if fnd 10 (restOf s st.at_) < (restOf s st.at_).size ∧ goodJ st.notes.length st.sum (headOf (restOf s st.at_)) = true then
    some ⟨st.at_ + (fnd 10 (restOf s st.at_) + 1), noteSum st.sum ((st.notes.length : Int) + 1) (noteOf (headOf (restOf s st.at_))).data.toList, st.notes ++ [noteOf (headOf (restOf s st.at_))]⟩
  else none
def runJ (s : ByteArray) : Nat → JSt → JSt
  | 0, st => st
  | f + 1, st => match stepJ s st with
    | none => st
    | some st' => runJ s f st'
def readJ (s : ByteArray) : JSt := runJ s s.size ⟨0, 0, []⟩

theorem rest_size (s : ByteArray) (a : Nat) : (restOf s a).size = s.size - a := by simp [restOf]
theorem head_size (r : ByteArray) : (headOf r).size = fnd 10 r := by
  have := fnd_le 10 r
  simp [headOf]; omega
theorem tail_size (c : UInt8) (s : ByteArray) : (tailOf c s).size = s.size - (fnd c s + 1) := by simp [tailOf]
theorem note_size (l : ByteArray) : (noteOf l).size ≤ l.size := by
  unfold noteOf
  rw [tail_size, tail_size]; omega

theorem runJ_stop (s : ByteArray) (f : Nat) (st : JSt) (h : stepJ s st = none) : runJ s f st = st := by
  cases f with
  | zero => rfl
  | succ f => simp [runJ, h]

/-- the state is on the way to the reading -/
def OnWay (s : ByteArray) (st : JSt) : Prop := (∃ f, s.size ≤ f + st.at_ ∧ runJ s f st = readJ s) ∧ st.at_ ≤ s.size ∧ st.notes.length ≤ st.at_ ∧ 0 ≤ st.sum ∧ st.sum < 65521
theorem OnWay.start (s : ByteArray) : OnWay s ⟨0, 0, []⟩ := ⟨⟨s.size, by simp, rfl⟩, by simp, by simp, by simp, by simp⟩
theorem OnWay.stop {s : ByteArray} {st : JSt} (h : OnWay s st) (hn : stepJ s st = none) : readJ s = st := by
  obtain ⟨⟨f, _, h2⟩, _⟩ := h
  rw [runJ_stop s f st hn] at h2
  exact h2.symm
theorem OnWay.step {s : ByteArray} {st : JSt} (h : OnWay s st) (h1 : fnd 10 (restOf s st.at_) < (restOf s st.at_).size) (h2 : goodJ st.notes.length st.sum (headOf (restOf s st.at_)) = true) :
    OnWay s ⟨st.at_ + (fnd 10 (restOf s st.at_) + 1), noteSum st.sum ((st.notes.length : Int) + 1) (noteOf (headOf (restOf s st.at_))).data.toList, st.notes ++ [noteOf (headOf (restOf s st.at_))]⟩ := by
  obtain ⟨⟨f, hf, hr⟩, ha, hn, _, _⟩ := h
  rw [rest_size] at h1
  have hst : stepJ s st = some _ := if_pos ⟨by rw [rest_size]; exact h1, h2⟩
  have hbd := noteSum_bd st.sum ((st.notes.length : Int) + 1) (noteOf (headOf (restOf s st.at_))).data.toList
  refine ⟨?_, by show st.at_ + _ ≤ _; omega, by simp; omega, hbd.1, hbd.2⟩
  cases f with
  | zero => omega
  | succ f =>
    refine ⟨f, by show _ ≤ f + (st.at_ + _); omega, ?_⟩
    rw [← hr]
    simp only [runJ, hst]
theorem OnWay.no1 {s : ByteArray} {st : JSt} (h : OnWay s st) (h1 : ¬ fnd 10 (restOf s st.at_) < (restOf s st.at_).size) : readJ s = st := h.stop (if_neg fun h => h1 h.1)
theorem OnWay.no2 {s : ByteArray} {st : JSt} (h : OnWay s st) (h1 : goodJ st.notes.length st.sum (headOf (restOf s st.at_)) = false) : readJ s = st := h.stop (if_neg fun h => by simp [h1] at h)

theorem readJ_way (s : ByteArray) : OnWay s (readJ s) := by
  have key : ∀ f st, OnWay s st → OnWay s (runJ s f st) := by
    intro f
    induction f with
    | zero => intro st h; exact h
    | succ f ih =>
      intro st h
      unfold runJ
      by_cases hc : fnd 10 (restOf s st.at_) < (restOf s st.at_).size ∧ goodJ st.notes.length st.sum (headOf (restOf s st.at_)) = true
      · rw [show stepJ s st = some _ from if_pos hc]
        exact ih _ (h.step hc.1 hc.2)
      · rw [show stepJ s st = none from if_neg hc]
        exact h
  exact key _ _ (OnWay.start s)
end Go.Proofs.YtcidjbgjgancgaaDoor
