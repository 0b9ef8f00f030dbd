/- Registers, part 1: the exact laws' helpers: szInt64S, szRegister, toInt64S, eqInt64S. -/
import Derived.Test.YtplpeeienpaaeaaDoorLib
import Derived.Test.YtplpeeienpaaeaaDoorBase
import Derived.Lib.SmallJoins
namespace Go.Proofs.YtplpeeienpaaeaaDoor
open Go.RowKit Go.Joins

def ints (l : List Int) : List Value := l.map (Value.int .i64)
theorem infoI : (Tryd.prog.info? 2).map (fun i => (i.zero, i.size, i.bytes)) = some (some (.int .i64 0), 1, 8) := by kernel_rfl
theorem ints_rd {w : World} {B n c : Nat} {A : Option Addr} {zs : List Int} (h : Rd w B (.slice A n c) zs.length 1 (ints zs)) (k : Nat) (hk : k < zs.length) :
    ∃ b off, A = some ⟨b, off, none⟩ ∧ w.cell? ⟨b, off + k, none⟩ = some (.int .i64 zs[k]) := by
  obtain ⟨_, A', c', hv, hc⟩ := h
  injection hv with e1 e2 e3
  subst e1
  obtain ⟨b, off, hA, _, hcc⟩ := hc (by omega)
  exact ⟨b, off, hA, hcc k _ (by simp [ints, hk])⟩

/-- what is left of the room -/
def leftI (left : Int) (n : Nat) : Int := if left - n < 0 then -1 else left - n
theorem leftI_bd (left : Int) (n : Nat) (h1 : left ≤ 1048576) : leftI left n ≤ 1048576 ∧ (0 ≤ leftI left n → (n : Int) ≤ left) ∧ (leftI left n < 0 → leftI left n = -1) := by
  unfold leftI
  split <;> omega

end Go.Proofs.YtplpeeienpaaeaaDoor
