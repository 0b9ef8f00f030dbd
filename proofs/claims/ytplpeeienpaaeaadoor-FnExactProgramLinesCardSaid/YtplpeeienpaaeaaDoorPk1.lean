/- Packed registers, part 1: the bytes of a register, plain; the program's bytes. -/
import Derived.Test.YtplpeeienpaaeaaDoorReg9
import Derived.Test.YtplpeeienpaaeaaDoorSum
namespace Go.Proofs.YtplpeeienpaaeaaDoor
open Go.RowKit Go.Joins

theorem infoB : (Tryd.prog.info? 5).map (fun i => (i.zero, i.size, i.bytes)) = some (some (.int .u8 0), 1, 1) := by kernel_rfl
/-- a number as a byte -/
def byt (n : Int) : UInt8 := UInt8.ofNat n.toNat
theorem byV_byt {n : Int} (h0 : 0 ≤ n) (h1 : n < 256) : byV (byt n) = .int .u8 n := by
  unfold byV byt
  rw [UInt8.toNat_ofNat']
  congr 1
  omega
theorem wrap8 {n : Int} (h0 : 0 ≤ n) (h1 : n < 256) : IntKind.u8.wrap n = n := by rw [IntKind.wrap_u8]; omega
/-- digits, two in a byte -/
def nibs : List Int → List UInt8
  | [] => []
  | [d] => [byt (16 * d)]
  | d :: e :: l => byt (16 * d + e) :: nibs l
theorem nibs_two (zs : List Int) (k : Nat) (h : k + 1 < zs.length) : nibs (zs.drop k) = byt (16 * zs[k] + zs[k + 1]) :: nibs (zs.drop (k + 2)) := by
  rw [List.drop_eq_getElem_cons (by omega : k < zs.length), List.drop_eq_getElem_cons h]; rfl
theorem nibs_one (zs : List Int) (k : Nat) (hk : k < zs.length) (h : zs.length ≤ k + 1) : nibs (zs.drop k) = byt (16 * zs[k]) :: nibs (zs.drop (k + 2)) := by
  rw [List.drop_eq_getElem_cons hk, List.drop_of_length_le h, List.drop_of_length_le (by omega : zs.length ≤ k + 2)]; rfl
theorem nibs_end (zs : List Int) (k : Nat) (h : zs.length ≤ k) : nibs (zs.drop k) = [] := by rw [List.drop_of_length_le h]; rfl
def headR (b : Int) (n : Nat) : UInt8 := byt (16 * (b - 1) + ((n : Int) - 1))
def bytesR (b : Int) (zs : List Int) : List UInt8 := headR b zs.length :: nibs zs
def bys (l : List UInt8) : List Value := l.map byV

/-- what the bytes are appended to: the row of the call's own, in a world that is as before below it -/
def OwnB (w : World) (base : Nat) (l : List UInt8) (e : Ending) (w' : World) : Prop :=
  ∃ A c, e = .returned (.slice A l.length c) ∧ w'.ownsRow base 5 1 (.slice A l.length c) l.length (bys l) ∧ Below base w w'
theorem two_below {W w1 : World} {B g : Nat} {x y : Value} (hb : Below B W w1) (hg : g < B) (h : W.cell? ⟨g, 0, none⟩ = some x ∧ W.cell? ⟨g, 1, none⟩ = some y) :
    w1.cell? ⟨g, 0, none⟩ = some x ∧ w1.cell? ⟨g, 1, none⟩ = some y :=
  ⟨(hb.cell hg).trans h.1, (hb.cell hg).trans h.2⟩

end Go.Proofs.YtplpeeienpaaeaaDoor
