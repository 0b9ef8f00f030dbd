/- Registers, part 5: the program's value of a register. -/
import Derived.Test.YtfaoilonkonmkaaReg4
namespace Go.Proofs.Ytfaoilonkonmkaa
open Go.RowKit Go.Joins

/-- where the value has become too great it stays so -/
theorem capV_top (b : Int) (hb : 2 ≤ b) (zs : List Int) (hd : digB b zs = true) : ∀ k, k ≤ zs.length → capV b (zs.drop k) = 1000000000001 → capV b zs = 1000000000001 := by
  intro k
  induction k with
  | zero => intro _ h; exact h
  | succ k ih =>
    intro hk h
    refine ih (by omega) ?_
    have hkl : k < zs.length := by omega
    have hz := digB_at hd k hkl
    rw [capV_at b zs k hkl, h]
    split
    · rfl
    · omega

set_option maxRecDepth 100000 in
set_option maxHeartbeats 800000 in
theorem value_any (B : Nat) (b : Int) (v : Value) (zs : List Int) (w : World) (h : Rd w B v zs.length 1 (ints zs)) (hB : B ≤ w.heap.size) (hb : 2 ≤ b) (hb2 : b ≤ 16) (hd : digB b zs = true) (hl : zs.length ≤ 1048576) :
    Calls Try.prog 75 #[.agg #[.int .i64 b, v]] w fun e w' => e = .returned (.int .i64 (capV b zs)) ∧ Below w.heap.size w w' := by
  have h' := h
  obtain ⟨_, A, c, rfl, _⟩ := h'
  have hba := (Below.refl w.heap.size w).alloc (Nat.le_refl _) (.cells #[.int .i64 b, .slice A zs.length c] 28)
  have Hba := Lib.hid hba
  have H := Lib.hid (h.below (hba.mono hB))
  have hnew := heap_alloc_new w (.cells #[.int .i64 b, .slice A zs.length c] 28)
  have Hd := Lib.hid hd
  have Htop := Lib.hid (capV_top b hb zs hd)
  obtain ⟨r0, r1, _, _⟩ := blk2 hnew
  clear hba h hd hnew
  go_enter Try.func75, Try.ntmps75
  go_wp2_with fail
  generalize w.alloc (.cells #[.int .i64 b, .slice A zs.length c] 28) = w0 at *
  go_loopw [3, 4] (fun s i wr => ∃ (j m : Nat) (ii : Int), j ≤ zs.length ∧ ii = (j : Int) - 1 ∧ s = .int .i64 (capV b (zs.drop j)) ∧ capV b (zs.drop j) ≤ 1000000000000 ∧ i = .int .i64 ii ∧ wr = w0.drewN m) (fun _ i _ => (intOf i + 1).toNat)
  case atStart => exact ⟨zs.length, 0, _, Nat.le_refl _, rfl, by rw [List.drop_length]; rfl, by rw [List.drop_length]; simp [capV], rfl, rfl⟩
  case round =>
    obtain ⟨j, m, ii, hj, hii, rfl, hcap, rfl, rfl⟩ := hrel
    cases j with
    | zero =>
      have hneg : ii < 0 := by omega
      clear hii
      go_wp2_with fail
      go_ret
      exact ⟨rfl, below_drewN Hba.out _⟩
    | succ k =>
      obtain rfl : ii = (k : Int) := by omega
      clear hii
      have hkl : k < zs.length := by omega
      obtain ⟨p1, o1, hA, hx⟩ := ints_rd H.out k hkl
      subst hA
      obtain ⟨z0, z1⟩ := digB_at Hd.out k hkl
      obtain ⟨s0, _⟩ := capV_bd b hb (zs.drop (k + 1)) (digB_drop Hd.out _)
      have Hst := Lib.hid (capV_at b zs k hkl)
      have Htk := Lib.hid (Htop.out k (by omega))
      generalize capV b (zs.drop (k + 1)) = s at *
      generalize zs[k] = z at *
      have hsb := Int.mul_nonneg s0 (by omega : 0 ≤ b)
      have hsb2 : s * b ≤ s * 16 := Int.mul_le_mul_of_nonneg_left hb2 s0
      generalize hq : s * b = q at *
      have hw1 : IntKind.i64.wrap q = q := IntWalk.i64_in _ (by omega)
      have hw2 : IntKind.i64.wrap (q + z) = q + z := IntWalk.i64_in _ (by omega)
      by_cases hbig : 1000000000000 < q + z
      · have hfin := Lib.hid (show capV b zs = 1000000000001 from Htk.out (by rw [Hst.out]; split <;> omega))
        go_wp2_with fail
        go_quiet (fail)
        clear hw1 hw2
        go_wp2_with fail
        go_ret
        rw [hfin.out]; exact ⟨rfl, below_drewN Hba.out _⟩
      · have hfin := Lib.hid (show capV b (zs.drop k) = q + z by rw [Hst.out, if_neg (by omega)])
        go_wp2_with fail
        go_quiet (fail)
        clear hw1 hw2
        go_wp2_with fail
        go_roundw
        case rel => exact ⟨k, _, _, by omega, by omega, by rw [hfin.out], by rw [hfin.out]; omega, rfl, rfl⟩
        case measure => simp [intOf]
end Go.Proofs.Ytfaoilonkonmkaa
