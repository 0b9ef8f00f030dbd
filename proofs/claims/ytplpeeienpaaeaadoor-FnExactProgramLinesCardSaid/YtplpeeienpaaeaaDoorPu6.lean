/- Programs of hand movements, unpacked, part 6: the reference's UnpackProgram. -/
import Derived.Test.YtplpeeienpaaeaaDoorPu5
namespace Go.Proofs.YtplpeeienpaaeaaDoor
open Go.RowKit Go.Joins

theorem goOn6_bad (k : Nat) (acc : List (Int × Int)) (c : UInt8) (l : List UInt8) (h : (numV l).2 = 0) : goOn 6 (k + 1) acc (c :: l) = none := by
  refine goOn_bad 6 k acc c l ?_
  cases hn : numF 6 1 0 l with
  | none => rfl
  | some x =>
    have := numF_pos 6 1 0 l x.1 x.2 hn
    unfold numV at h
    rw [hn] at h
    simp only at h
    omega
theorem goOn6_step (k : Nat) (acc : List (Int × Int)) (c : UInt8) (l : List UInt8) (h : (numV l).2 ≠ 0) : goOn 6 (k + 1) acc (c :: l) = goOn 6 k (acc ++ [((c.toNat : Int), ((numV l).1 : Int))]) (l.drop (numV l).2) ∧ (numV l).2 ≤ l.length := by
  cases hn : numF 6 1 0 l with
  | none =>
    unfold numV at h
    rw [hn] at h
    exact absurd rfl h
  | some x =>
    have := numF_pos 6 1 0 l x.1 x.2 hn
    have e : numV l = x := by unfold numV; rw [hn]
    rw [e]
    exact ⟨goOn_step 6 k acc c l x.1 x.2 hn, this.2⟩
theorem ba_nil {s : ByteArray} (h : s.size = 0) : s = ⟨#[]⟩ := by
  obtain ⟨⟨l⟩⟩ := s
  have : l = [] := List.eq_nil_of_length_eq_zero h
  rw [this]
theorem ba_ne {s : ByteArray} (h : s.size ≠ 0) : s.toList.isEmpty = false := by
  cases hs : s.toList.isEmpty with
  | false => rfl
  | true =>
    have h1 : s.toList = [] := by simpa using hs
    have h2 := congrArg List.length h1
    rw [ByteArray.toList_eq] at h2
    simp at h2
    exact absurd h2 (by simpa using h)
theorem ba_cons {s : ByteArray} (h : 0 < s.size) : s.data.toList = s[0] :: (s.extract 1 s.size).data.toList := by
  rw [extr_list]
  exact List.drop_eq_getElem_cons (l := s.data.toList) (i := 0) (by simpa using h)

end Go.Proofs.YtplpeeienpaaeaaDoor
