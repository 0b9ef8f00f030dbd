/- Programs of hand movements, part 2: valid programs on both sides. -/
import Derived.Test.YtjkjlpjeamifbaaDoorPg1
namespace Go.Proofs.YtjkjlpjeamifbaaDoor
open Go.RowKit Go.Joins

theorem Calls_same' {P : Program} {f : FuncId} {args : Array Value} {w : World} {v : Value} (h : Calls P f args w fun e w' => e = .returned v ∧ w = w') : Calls P f args w fun e w' => e = .returned v ∧ w' = w :=
  h.mono fun _ _ ⟨a, b⟩ => ⟨a, b.symm⟩

def cellsP (x : Int × Int) : List Value := [.int .i64 x.1, .int .i64 x.2]
def progs (l : List (Int × Int)) : List Value := l.flatMap cellsP
theorem progs_len (l : List (Int × Int)) : (progs l).length = l.length * 2 := flat_len cellsP 2 (fun _ => rfl) l
theorem progs_rd {w : World} {B n c : Nat} {A : Option Addr} {zs : List (Int × Int)} (h : Rd w B (.slice A n c) zs.length 2 (progs zs)) (k : Nat) (hk : k < zs.length) :
    ∃ b off, A = some ⟨b, off, none⟩ ∧ b < B ∧ w.cell? ⟨b, off + k * 2, none⟩ = some (.int .i64 zs[k].1) ∧ w.cell? ⟨b, off + k * 2 + 1, none⟩ = some (.int .i64 zs[k].2) := by
  obtain ⟨_, A', c', hv, hc⟩ := h
  injection hv with e1 e2 e3
  subst e1
  obtain ⟨b, off, hA, hb, hcc⟩ := hc (by omega)
  refine ⟨b, off, hA, hb, ?_, ?_⟩
  · exact hcc (k * 2 + 0) _ ((flat_at cellsP 2 (fun _ => rfl) zs k 0 hk (by omega)).trans rfl)
  · have := hcc (k * 2 + 1) _ ((flat_at cellsP 2 (fun _ => rfl) zs k 1 hk (by omega)).trans rfl)
    rwa [← Nat.add_assoc] at this

/-- the depth behind instructions; none where one is wrong -/
def goD : Int → List (Int × Int) → Option Int
  | d, [] => some d
  | d, x :: l => if (okIns x.1 x.2 && decide (stepF x.1 d = 0)) = true then goD (stepV x.1 d) l else none
def okProg (zs : List (Int × Int)) : Bool := (goD 0 zs == some 0) && decide (zs.length ≤ 120)
theorem goD_at (zs : List (Int × Int)) (k : Nat) (hk : k < zs.length) (d : Int) : goD d (zs.drop k) = if (okIns zs[k].1 zs[k].2 && decide (stepF zs[k].1 d = 0)) = true then goD (stepV zs[k].1 d) (zs.drop (k + 1)) else none := by
  rw [List.drop_eq_getElem_cons hk]; rfl
theorem step_bd (op d : Int) (h0 : 0 ≤ d) (h4 : d ≤ 4) : 0 ≤ stepV op d ∧ stepV op d ≤ 4 := by
  unfold stepV; split
  · split <;> omega
  · split
    · split <;> omega
    · omega

theorem okIns_in {op a : Int} (h : inB op 1 10 = false) : okIns op a = false := by unfold okIns; rw [h]; rfl
theorem okIns_arg {op a : Int} (h : inB op 1 10 = true) : okIns op a = argF op a := by unfold okIns; rw [h]; rfl

end Go.Proofs.YtjkjlpjeamifbaaDoor
