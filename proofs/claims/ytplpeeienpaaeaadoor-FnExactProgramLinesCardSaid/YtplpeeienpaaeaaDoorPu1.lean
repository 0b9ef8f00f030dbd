/- Programs of hand movements, unpacked, part 1: the reading of bytes, plain. -/
import Derived.Test.YtplpeeienpaaeaaDoorPg4
namespace Go.Proofs.YtplpeeienpaaeaaDoor
open Go.RowKit Go.Joins

/-- a number at the beginning of bytes, seven bits in each: at most f bytes; the number and how many bytes it has -/
def numF : Nat → Nat → Nat → List UInt8 → Option (Nat × Nat)
  | 0, _, _, _ => none
  | _ + 1, _, _, [] => none
  | f + 1, u, a, c :: l => if c.toNat < 128 then some (a + c.toNat % 128 * u, 1) else (numF f (u * 128) (a + c.toNat % 128 * u) l).map fun x => (x.1, x.2 + 1)
theorem byt_toNat {n : Int} (h0 : 0 ≤ n) (h1 : n < 256) : (byt n).toNat = n.toNat := by
  unfold byt; rw [UInt8.toNat_ofNat']; omega
theorem numF_enc : ∀ (f n u a : Nat) (r : List UInt8), (encA n).length ≤ f → numF f u a (encA n ++ r) = some (a + n * u, (encA n).length) := by
  intro f
  induction f with
  | zero =>
    intro n u a r h
    by_cases hn : n < 128
    · rw [encA_lt hn] at h; simp at h
    · rw [encA_ge (by omega)] at h; simp at h
  | succ f ih =>
    intro n u a r h
    by_cases hn : n < 128
    · rw [encA_lt hn]
      have hb := byt_toNat (n := (n : Int)) (by omega) (by omega)
      rw [Int.toNat_natCast] at hb
      simp only [List.singleton_append, numF, hb, if_pos hn, Nat.mod_eq_of_lt hn, List.length_singleton]
    · have hge := encA_ge (n := n) (by omega)
      rw [hge] at h ⊢
      simp only [List.length_cons] at h
      have hb := byt_toNat (n := (n : Int) % 128 + 128) (by omega) (by omega)
      have hb2 : (byt ((n : Int) % 128 + 128)).toNat % 128 = n % 128 := by rw [hb]; omega
      have hb3 : ¬ (byt ((n : Int) % 128 + 128)).toNat < 128 := by rw [hb]; omega
      simp only [List.cons_append, numF, if_neg hb3, hb2]
      rw [ih (n / 128) (u * 128) _ r (by omega)]
      simp only [Option.map_some, List.length_cons, Option.some.injEq, Prod.mk.injEq, and_true]
      have h1 : n = 128 * (n / 128) + n % 128 := (Nat.div_add_mod n 128).symm
      generalize n / 128 = q at *
      generalize n % 128 = m at *
      subst h1
      rw [Nat.add_mul, Nat.mul_comm u 128, ← Nat.mul_assoc, Nat.mul_comm q 128]
      omega
/-- instructions at the beginning of bytes, and what is behind them -/
def parseF (f : Nat) : Nat → List UInt8 → Option (List (Int × Int) × List UInt8)
  | 0, l => some ([], l)
  | _ + 1, [] => none
  | k + 1, c :: l => match numF f 1 0 l with
    | none => none
    | some (v, n) => (parseF f k (l.drop n)).map fun x => (((c.toNat : Int), (v : Int)) :: x.1, x.2)
theorem parseF_enc (f : Nat) (hf : 6 ≤ f) : ∀ (l : List (Int × Int)) (r : List UInt8), (∀ x ∈ l, okIns x.1 x.2 = true) → parseF f l.length (encs l ++ r) = some (l, r) := by
  intro l
  induction l with
  | nil => intro r _; rfl
  | cons x l ih =>
    intro r h
    obtain ⟨p1, p2, p3, p4⟩ := okIns_bd (h x (by simp))
    have hl : (encA x.2.toNat).length ≤ 6 := encA_len 5 x.2.toNat (by have : (128 : Nat) ^ 6 = 4398046511104 := by decide
                                                                      omega)
    have he : encs (x :: l) ++ r = byt x.1 :: (encA x.2.toNat ++ (encs l ++ r)) := by
      unfold encs enc1
      rw [List.flatMap_cons, List.cons_append, List.cons_append, List.append_assoc]
    rw [he, List.length_cons]
    unfold parseF
    rw [numF_enc f _ 1 0 _ (by omega)]
    simp only
    rw [List.drop_left, ih r (fun y hy => h y (by simp [hy]))]
    have hb := byt_toNat (n := x.1) (by omega) (by omega)
    simp only [Option.map_some, Option.some.injEq, Prod.mk.injEq, and_true, List.cons.injEq]
    rw [hb]
    obtain ⟨x1, x2⟩ := x
    simp only [Prod.mk.injEq] at *
    omega
end Go.Proofs.YtplpeeienpaaeaaDoor
