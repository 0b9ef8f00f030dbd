/- Loans, part 7: heldLoanS. -/
import Derived.Test.YtfaoilonkonmkaaLo6
namespace Go.Proofs.Ytfaoilonkonmkaa
open Go.RowKit Go.Joins

theorem marksL_at (k : Int) (n i : Nat) (h : i < n) : (marksL k n)[i]'(by rw [marksL_len]; exact h) = ⟨markT (k + 4 * (i : Int)), markT (k + 4 * (i : Int) + 1), k + 4 * (i : Int) + 1 + 1, k + 4 * (i : Int) + 1 + 1 + 1⟩ := by simp [marksL]

theorem four_kept {W w1 : World} {a b c d : Addr} {x y z t : Value} (hb : Below W.heap.size W w1) (h : W.cell? a = some x ∧ W.cell? b = some y ∧ W.cell? c = some z ∧ W.cell? d = some t) :
    w1.cell? a = some x ∧ w1.cell? b = some y ∧ w1.cell? c = some z ∧ w1.cell? d = some t :=
  have k {p : Addr} {v : Value} (h : W.cell? p = some v) : w1.cell? p = some v := (hb.cell (World.block_lt_of_cell? W _ h)).trans h
  ⟨k h.1, k h.2.1, k h.2.2.1, k h.2.2.2⟩

set_option maxRecDepth 100000 in
set_option maxHeartbeats 1600000 in
theorem heldLoanS_any (B : Nat) (v : Value) (k0 : Int) (n : Nat) (w : World) (h : RdL w B v (marksL k0 n)) (hB : B ≤ w.heap.size) (hk0 : 0 ≤ k0) (hk : k0 + 4 * n ≤ 4611686018427387904) :
    Calls Try.prog 46 #[v, .int .i64 k0] w fun e w' => e = .returned (.int .i64 (k0 + 4 * n)) ∧ Below w.heap.size w w' := by
  have H := Lib.hid h
  obtain ⟨A, c, rfl⟩ := h.slice
  rw [marksL_len] at *
  clear h
  have hb0 := Below.refl w.heap.size w
  go_enter Try.func46, Try.ntmps46
  go_wp2_with fail
  go_loopw [1, 5] (fun a i wr => ∃ k : Nat, k ≤ n ∧ i = .int .i64 (k : Int) ∧ a = .int .i64 (k0 + 4 * k) ∧ Below w.heap.size w wr) (fun _ i _ => n - (intOf i).toNat)
  case atStart => exact ⟨0, Nat.zero_le _, rfl, by simp, hb0⟩
  case round =>
    obtain ⟨k, hkn, rfl, rfl, hbl⟩ := hrel
    by_cases hlt : k < n
    · obtain ⟨b1, o1, hA, hE⟩ := (H.out.below (hbl.mono hB)).at k (by rw [marksL_len]; exact hlt)
      subst hA
      rw [marksL_at k0 n k hlt] at hE
      obtain ⟨hbB, e0, e1, e2, e3⟩ := hE
      dsimp only at e0 e1 e2 e3
      have hlt' : (k : Int) < (n : Int) := by omega
      have Hm1 := Lib.hid (fun wx => markText_any (k0 + 4 * (k : Int)) wx (by omega))
      have Hm2 := Lib.hid (fun wx => markText_any (k0 + 4 * (k : Int) + 1) wx (by omega))
      generalize markT (k0 + 4 * (k : Int)) = M1 at *
      generalize markT (k0 + 4 * (k : Int) + 1) = M2 at *
      have hacc : Below w.heap.size w wr.drew := hbl.drew
      clear hbl
      go_wp2_with fail
      go_region_held3 (fun w' => w'.cell? ⟨b1, o1 + k * 4, none⟩ = some (.string M1) ∧ w'.cell? ⟨b1, o1 + k * 4 + 1, none⟩ = some (.string M2) ∧ w'.cell? ⟨b1, o1 + k * 4 + 2, none⟩ = some (.int .i64 (k0 + 4 * (k : Int) + 1 + 1)) ∧ w'.cell? ⟨b1, o1 + k * 4 + 3, none⟩ = some (.int .i64 (k0 + 4 * (k : Int) + 1 + 1 + 1)))
        (first | go_keep | assumption)
        ((go_at_call 106; refine (Hm1.out _).mono ?_; rintro e wq ⟨rfl, hbq⟩; have hSq := four_kept hbq (by assumption); have hacc' := hacc.trans (hbq.mono hacc.size); clear hacc; have hacc := hacc'; clear hacc'))
      go_wp2_with fail
      have hacc2 : Below w.heap.size w _ := hacc.drew
      clear hacc
      have hacc := hacc2
      clear hacc2
      go_region_held3 (fun w' => w'.cell? ⟨b1, o1 + k * 4, none⟩ = some (.string M1) ∧ w'.cell? ⟨b1, o1 + k * 4 + 1, none⟩ = some (.string M2) ∧ w'.cell? ⟨b1, o1 + k * 4 + 2, none⟩ = some (.int .i64 (k0 + 4 * (k : Int) + 1 + 1)) ∧ w'.cell? ⟨b1, o1 + k * 4 + 3, none⟩ = some (.int .i64 (k0 + 4 * (k : Int) + 1 + 1 + 1)))
        (first | go_keep | assumption)
        ((go_at_call 106; refine (Hm2.out _).mono ?_; rintro e wq ⟨rfl, hbq⟩; have hSq := four_kept hbq (by assumption); have hacc' := hacc.trans (hbq.mono hacc.size); clear hacc; have hacc := hacc'; clear hacc'))
      go_wp2_with fail
      go_roundw
      case rel => exact ⟨k + 1, by omega, by go_num, by first | go_num | (congr 1; omega), hacc⟩
      case measure => simp [intOf]; omega
    · have hlt' : (n : Int) ≤ (k : Int) := by omega
      go_wp2_with fail
      go_ret
      obtain rfl : k = n := by omega
      exact ⟨rfl, hbl⟩
end Go.Proofs.Ytfaoilonkonmkaa
