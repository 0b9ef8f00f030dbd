/- Programs of hand movements, part 3: the exact laws' helpers: szInstrS, toInstrS, eqInstrS. -/
import Derived.Test.YtjkjlpjeamifbaaDoorPg2
namespace Go.Proofs.YtjkjlpjeamifbaaDoor
open Go.RowKit Go.Joins

theorem infoP : (Tryd.prog.info? 70).map (fun i => (i.zero, i.size, i.bytes)) = some (some (.agg #[.int .i64 0, .int .i64 0]), 2, 16) := by kernel_rfl
/-- what is left of the room -/
def leftP (left : Int) (n : Nat) : Int := if left - n < 0 then -1 else left - n
theorem leftP_bd (left : Int) (n : Nat) (h1 : left ≤ 1048576) : leftP left n ≤ 1048576 ∧ (0 ≤ leftP left n → (n : Int) ≤ left) ∧ (leftP left n < 0 → leftP left n = -1) := by
  unfold leftP
  split <;> omega

theorem eqInstr_same (op a : Int) (w : World) :
    Calls Tryd.prog 47 #[.agg #[.int .i64 op, .int .i64 a], .agg #[.int .i64 op, .int .i64 a]] w fun e w' => e = .returned (.bool true) ∧ Below w.heap.size w w' := by
  have hb := fun o1 o2 => Lib.hid (((Below.refl w.heap.size w).alloc (Nat.le_refl _) o1).alloc (by simp) o2)
  go_enter Tryd.func47, Tryd.ntmps47
  go_wp2_with fail
  go_ret
  exact ⟨rfl, (hb _ _).out⟩
theorem four_cells {W w1 : World} {a b c d : Addr} {x y z t : Value} (hb : Below W.heap.size W w1) (h : W.cell? a = some x ∧ W.cell? b = some y ∧ W.cell? c = some z ∧ W.cell? d = some t) :
    w1.cell? a = some x ∧ w1.cell? b = some y ∧ w1.cell? c = some z ∧ w1.cell? d = some t :=
  have k {p : Addr} {v : Value} (h : W.cell? p = some v) : w1.cell? p = some v := (hb.cell (World.block_lt_of_cell? W _ h)).trans h
  ⟨k h.1, k h.2.1, k h.2.2.1, k h.2.2.2⟩

set_option maxRecDepth 100000 in
set_option maxHeartbeats 800000 in
theorem eqInstrS_same (B1 B2 : Nat) (v1 v2 : Value) (zs : List (Int × Int)) (w : World) (h1 : Rd w B1 v1 zs.length 2 (progs zs)) (h2 : Rd w B2 v2 zs.length 2 (progs zs)) (hB1 : B1 ≤ w.heap.size) (hB2 : B2 ≤ w.heap.size) (hz : zs.length ≤ 4611686018427387904) :
    Calls Tryd.prog 21 #[v1, v2] w fun e w' => e = .returned (.bool true) ∧ Below w.heap.size w w' := by
  have H1 := Lib.hid h1
  have H2 := Lib.hid h2
  obtain ⟨_, A1, c1, rfl, _⟩ := h1
  obtain ⟨_, A2, c2, rfl, _⟩ := h2
  have hb0 := Below.refl w.heap.size w
  go_enter Tryd.func21, Tryd.ntmps21
  go_wp2_with fail
  go_loopw [5] (fun i wr => ∃ k : Nat, k ≤ zs.length ∧ i = .int .i64 k ∧ Below w.heap.size w wr) (fun i _ => zs.length - (intOf i).toNat)
  case atStart => exact ⟨0, Nat.zero_le _, rfl, hb0⟩
  case round =>
    obtain ⟨k, hk, rfl, hbl⟩ := hrel
    by_cases hlt : k < zs.length
    · obtain ⟨b1, o1, hA1, _, hx, hx'⟩ := progs_rd (H1.out.below (hbl.mono hB1)) k hlt
      obtain ⟨b2, o2, hA2, _, hy, hy'⟩ := progs_rd (H2.out.below (hbl.mono hB2)) k hlt
      subst hA1 hA2
      generalize zs[k].1 = op at *
      generalize zs[k].2 = a at *
      have hlt' : (k : Int) < (zs.length : Int) := by omega
      have hacc : Below w.heap.size w wr.drew := hbl.drew
      clear hbl
      go_wp2_with fail
      go_region_held3 (fun w' => w'.cell? ⟨b1, o1 + k * 2, none⟩ = some (.int .i64 op) ∧ w'.cell? ⟨b1, o1 + k * 2 + 1, none⟩ = some (.int .i64 a) ∧ w'.cell? ⟨b2, o2 + k * 2, none⟩ = some (.int .i64 op) ∧ w'.cell? ⟨b2, o2 + k * 2 + 1, none⟩ = some (.int .i64 a))
        (first | go_keep | assumption)
        ((go_at_call 47; refine (eqInstr_same _ _ _).mono ?_; rintro e wq ⟨rfl, hbq⟩; have hSq := four_cells hbq (by assumption); have hacc' := hacc.trans (hbq.mono hacc.size); clear hacc; have hacc := hacc'; clear hacc'))
      go_wp2_with fail
      go_roundw
      case rel => exact ⟨k + 1, by omega, by go_num, hacc⟩
      case measure => simp [intOf]; omega
    · have hlt' : (zs.length : Int) ≤ (k : Int) := by omega
      go_wp2_with fail
      go_ret
      exact ⟨rfl, hbl⟩

end Go.Proofs.YtjkjlpjeamifbaaDoor
