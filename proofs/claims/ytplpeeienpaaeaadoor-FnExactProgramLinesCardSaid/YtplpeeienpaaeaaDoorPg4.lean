/- Programs of hand movements, part 4: the bytes of a program, plain. -/
import Derived.Test.YtplpeeienpaaeaaDoorPg3
import Derived.Test.YtplpeeienpaaeaaDoorPk2
namespace Go.Proofs.YtplpeeienpaaeaaDoor
open Go.RowKit Go.Joins

/-- a number, seven bits in a byte -/
def encA (n : Nat) : List UInt8 := if n < 128 then [byt n] else byt ((n : Int) % 128 + 128) :: encA (n / 128)
termination_by n
decreasing_by omega
theorem encA_lt {n : Nat} (h : n < 128) : encA n = [byt n] := by rw [encA, if_pos h]
theorem encA_ge {n : Nat} (h : 128 ≤ n) : encA n = byt ((n : Int) % 128 + 128) :: encA (n / 128) := by rw [encA, if_neg (by omega)]
theorem encA_len : ∀ j n : Nat, n < 128 ^ (j + 1) → (encA n).length ≤ j + 1 := by
  intro j
  induction j with
  | zero => intro n h; rw [encA_lt (by simpa using h)]; simp
  | succ j ih =>
    intro n h
    by_cases hn : n < 128
    · rw [encA_lt hn]; simp
    · rw [encA_ge (by omega), List.length_cons]
      have := ih (n / 128) (by rw [Nat.div_lt_iff_lt_mul (by omega)]; rw [Nat.pow_succ] at h; exact h)
      omega
/-- an instruction as bytes -/
def enc1 (x : Int × Int) : List UInt8 := byt x.1 :: encA x.2.toNat
def encs (l : List (Int × Int)) : List UInt8 := l.flatMap enc1
def packP (l : List (Int × Int)) : List UInt8 := 80 :: byt (l.length : Int) :: encs l
theorem okIns_bd {op a : Int} (h : okIns op a = true) : 1 ≤ op ∧ op ≤ 10 ∧ 0 ≤ a ∧ a ≤ 1000000000000 := by
  unfold okIns argF inB at h
  simp only [Bool.and_eq_true, decide_eq_true_eq] at h
  obtain ⟨⟨h1, h2⟩, h3⟩ := h
  refine ⟨h1, h2, ?_⟩
  split at h3
  · simpa using h3
  · split at h3
    · simp at h3; omega
    · simp at h3; omega
theorem goD_ok : ∀ (l : List (Int × Int)) (d e : Int), goD d l = some e → ∀ x ∈ l, okIns x.1 x.2 = true := by
  intro l
  induction l with
  | nil => intro d e _ x hx; simp at hx
  | cons y l ih =>
    intro d e h x hx
    unfold goD at h
    split at h
    · next hy =>
      simp only [Bool.and_eq_true] at hy
      rcases List.mem_cons.1 hx with rfl | hx
      · exact hy.1
      · exact ih _ _ h x hx
    · simp at h
theorem okProg_all {l : List (Int × Int)} (h : okProg l = true) : (∀ x ∈ l, okIns x.1 x.2 = true) ∧ l.length ≤ 120 := by
  unfold okProg at h
  simp only [Bool.and_eq_true, beq_iff_eq, decide_eq_true_eq] at h
  exact ⟨goD_ok l 0 0 h.1, h.2⟩
theorem enc1_len {x : Int × Int} (h : okIns x.1 x.2 = true) : (enc1 x).length ≤ 7 := by
  obtain ⟨_, _, h3, h4⟩ := okIns_bd h
  have := encA_len 5 x.2.toNat (by have : (128 : Nat) ^ 6 = 4398046511104 := by decide
                                   omega)
  simp only [enc1, List.length_cons]; omega
theorem encs_len : ∀ l : List (Int × Int), (∀ x ∈ l, okIns x.1 x.2 = true) → (encs l).length ≤ 7 * l.length := by
  intro l
  induction l with
  | nil => intro _; simp [encs]
  | cons x l ih =>
    intro h
    have h1 := enc1_len (h x (by simp))
    have h2 := ih (fun y hy => h y (by simp [hy]))
    unfold encs at *
    rw [List.flatMap_cons, List.length_append, List.length_cons]; omega
theorem packP_len {l : List (Int × Int)} (h : okProg l = true) : (packP l).length ≤ 842 := by
  obtain ⟨h1, h2⟩ := okProg_all h
  have := encs_len l h1
  simp only [packP, List.length_cons]; omega
theorem encs_at (l : List (Int × Int)) (k : Nat) (hk : k < l.length) : encs (l.drop k) = byt l[k].1 :: (encA l[k].2.toNat ++ encs (l.drop (k + 1))) := by
  rw [List.drop_eq_getElem_cons hk]; rfl
theorem encs_end (l : List (Int × Int)) (k : Nat) (hk : l.length ≤ k) : encs (l.drop k) = [] := by rw [List.drop_of_length_le hk]; rfl
def packPT (zs : List (Int × Int)) : ByteArray := if okProg zs = true then ⟨(sealB (packP zs)).toArray⟩ else ⟨#[]⟩
def packPE (zs : List (Int × Int)) : Int := if okProg zs = true then 0 else 1
end Go.Proofs.YtplpeeienpaaeaaDoor
