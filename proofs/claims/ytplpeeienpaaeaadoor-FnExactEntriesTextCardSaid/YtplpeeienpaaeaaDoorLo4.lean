/- Loans, part 4: lists of loans compared. -/
import Derived.Test.YtplpeeienpaaeaaDoorLo3
namespace Go.Proofs.YtplpeeienpaaeaaDoor
open Go.RowKit Go.Joins

def EightC (w : World) (b1 o1 b2 o2 : Nat) (a b : ByteArray) (f t : Int) : Prop :=
  w.cell? ⟨b1, o1, none⟩ = some (.string a) ∧ w.cell? ⟨b1, o1 + 1, none⟩ = some (.string b) ∧ w.cell? ⟨b1, o1 + 2, none⟩ = some (.int .i64 f) ∧ w.cell? ⟨b1, o1 + 3, none⟩ = some (.int .i64 t) ∧ w.cell? ⟨b2, o2, none⟩ = some (.string a) ∧ w.cell? ⟨b2, o2 + 1, none⟩ = some (.string b) ∧ w.cell? ⟨b2, o2 + 2, none⟩ = some (.int .i64 f) ∧ w.cell? ⟨b2, o2 + 3, none⟩ = some (.int .i64 t)
theorem eight_cells {W w1 : World} {b1 o1 b2 o2 : Nat} {a b : ByteArray} {f t : Int} (hb : Below W.heap.size W w1) (h : EightC W b1 o1 b2 o2 a b f t) : EightC w1 b1 o1 b2 o2 a b f t :=
  have k {p : Addr} {v : Value} (h : W.cell? p = some v) : w1.cell? p = some v := (hb.cell (World.block_lt_of_cell? W _ h)).trans h
  ⟨k h.1, k h.2.1, k h.2.2.1, k h.2.2.2.1, k h.2.2.2.2.1, k h.2.2.2.2.2.1, k h.2.2.2.2.2.2.1, k h.2.2.2.2.2.2.2⟩

set_option maxRecDepth 100000 in
set_option maxHeartbeats 1600000 in
theorem eqLoanS_same (B1 B2 : Nat) (v1 v2 : Value) (xs : List Ln) (w : World) (h1 : RdL w B1 v1 xs) (h2 : RdL w B2 v2 xs) (hB1 : B1 ≤ w.heap.size) (hB2 : B2 ≤ w.heap.size) (hz : xs.length ≤ 4611686018427387904) :
    Calls Tryd.prog 10 #[v1, v2] w fun e w' => e = .returned (.bool true) ∧ Below w.heap.size w w' := by
  have H1 := Lib.hid h1
  have H2 := Lib.hid h2
  obtain ⟨A1, c1, rfl⟩ := h1.slice
  obtain ⟨A2, c2, rfl⟩ := h2.slice
  clear h1 h2
  have hb0 := Below.refl w.heap.size w
  go_enter Tryd.func10, Tryd.ntmps10
  go_wp2_with fail
  go_loopw [5] (fun i wr => ∃ k : Nat, k ≤ xs.length ∧ i = .int .i64 k ∧ Below w.heap.size w wr) (fun i _ => xs.length - (intOf i).toNat)
  case atStart => exact ⟨0, Nat.zero_le _, rfl, hb0⟩
  case round =>
    obtain ⟨k, hk, rfl, hbl⟩ := hrel
    by_cases hlt : k < xs.length
    · obtain ⟨b1, o1, hA1, hE1⟩ := (H1.out.below (hbl.mono hB1)).at k hlt
      obtain ⟨b2, o2, hA2, hE2⟩ := (H2.out.below (hbl.mono hB2)).at k hlt
      subst hA1 hA2
      generalize xs[k] = x at *
      have HQ := Lib.hid (fun wx => eqLoan_same x wx)
      obtain ⟨a, b, f, t⟩ := x
      obtain ⟨_, e0, e1, e2, e3⟩ := hE1
      obtain ⟨_, g0, g1, g2, g3⟩ := hE2
      dsimp only at e0 e1 e2 e3 g0 g1 g2 g3 HQ
      have hlt' : (k : Int) < (xs.length : Int) := by omega
      have hacc : Below w.heap.size w wr.drew := hbl.drew
      clear hbl
      go_wp2_with fail
      go_region_held3 (fun w' => w'.cell? ⟨b1, o1 + k * 4, none⟩ = some (.string a) ∧ w'.cell? ⟨b1, o1 + k * 4 + 1, none⟩ = some (.string b) ∧ w'.cell? ⟨b1, o1 + k * 4 + 2, none⟩ = some (.int .i64 f) ∧ w'.cell? ⟨b1, o1 + k * 4 + 3, none⟩ = some (.int .i64 t) ∧ w'.cell? ⟨b2, o2 + k * 4, none⟩ = some (.string a) ∧ w'.cell? ⟨b2, o2 + k * 4 + 1, none⟩ = some (.string b) ∧ w'.cell? ⟨b2, o2 + k * 4 + 2, none⟩ = some (.int .i64 f) ∧ w'.cell? ⟨b2, o2 + k * 4 + 3, none⟩ = some (.int .i64 t))
        (first | go_keep | assumption)
        ((go_at_call 31; refine (HQ.out _).mono ?_; rintro e wq ⟨rfl, hbq⟩; have hSq := eight_cells (b1 := b1) (o1 := o1 + k * 4) (b2 := b2) (o2 := o2 + k * 4) (a := a) (b := b) (f := f) (t := t) hbq (by assumption); have hacc' := hacc.trans (hbq.mono hacc.size); clear hacc; have hacc := hacc'; clear hacc'; unfold EightC at hSq))
      go_wp2_with fail
      go_roundw
      case rel => exact ⟨k + 1, by omega, by go_num, hacc⟩
      case measure => simp [intOf]; omega
    · have hlt' : (xs.length : Int) ≤ (k : Int) := by omega
      go_wp2_with fail
      go_ret
      exact ⟨rfl, hbl⟩
end Go.Proofs.YtplpeeienpaaeaaDoor
