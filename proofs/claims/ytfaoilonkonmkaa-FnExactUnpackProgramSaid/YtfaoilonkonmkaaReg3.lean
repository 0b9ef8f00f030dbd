/- Registers, part 3: the reference's value of digits. -/
import Derived.Test.YtfaoilonkonmkaaReg2
namespace Go.Proofs.Ytfaoilonkonmkaa
open Go.RowKit Go.Joins

/-- the value of digits, the least one first; at most one more than the greatest value -/
def capV (b : Int) : List Int → Int
  | [] => 0
  | d :: ds => if 1000000000001 < capV b ds * b + d then 1000000000001 else capV b ds * b + d
def digB (b : Int) (zs : List Int) : Bool := zs.all fun z => inB z 0 (b - 1)
theorem digB_at {b : Int} {zs : List Int} (h : digB b zs = true) (k : Nat) (hk : k < zs.length) : 0 ≤ zs[k] ∧ zs[k] ≤ b - 1 := by
  have := List.all_eq_true.1 h zs[k] (List.getElem_mem hk)
  simpa [inB] using this
theorem capV_bd (b : Int) (hb : 2 ≤ b) : ∀ zs : List Int, digB b zs = true → 0 ≤ capV b zs ∧ capV b zs ≤ 1000000000001 := by
  intro zs
  induction zs with
  | nil => intro _; simp [capV]
  | cons d ds ih =>
    intro h
    have h1 : 0 ≤ d := by
      have := digB_at h 0 (by simp)
      simpa using this.1
    have h2 := ih (by unfold digB at *; simp at h; simpa using h.2)
    have h3 := Int.mul_nonneg h2.1 (by omega : 0 ≤ b)
    unfold capV
    split <;> omega
theorem digB_drop {b : Int} {zs : List Int} (h : digB b zs = true) (k : Nat) : digB b (zs.drop k) = true := by
  unfold digB at *
  rw [List.all_eq_true] at *
  exact fun z hz => h z (List.mem_of_mem_drop hz)
theorem capV_at (b : Int) (zs : List Int) (k : Nat) (hk : k < zs.length) : capV b (zs.drop k) = if 1000000000001 < capV b (zs.drop (k + 1)) * b + zs[k] then 1000000000001 else capV b (zs.drop (k + 1)) * b + zs[k] := by
  rw [List.drop_eq_getElem_cons hk]; rfl

theorem l00Min_any (a b : Int) (w : World) :
    Calls Try.prog 135 #[.int .i64 a, .int .i64 b] w fun e w' => e = .returned (.int .i64 (if a < b then a else b)) ∧ w = w' := by
  by_cases h : a < b
  · go_enter Try.func135, Try.ntmps135
    go_wp2
    go_ret
    simp
  · have h' : b ≤ a := by omega
    go_enter Try.func135, Try.ntmps135
    go_wp2
    go_ret
    simp

set_option maxHeartbeats 400000 in
theorem l02Value_any (B : Nat) (b : Int) (v : Value) (zs : List Int) (w : World) (h : Rd w B v zs.length 1 (ints zs)) (hb : 2 ≤ b) (hb2 : b ≤ 16) (hd : digB b zs = true) (hl : zs.length ≤ 1048576) :
    Calls Try.prog 72 #[.int .i64 b, v] w fun e w' => e = .returned (.int .i64 (capV b zs)) ∧ w = w' := by
  have h' := h
  obtain ⟨_, A, c, rfl, _⟩ := h'
  have H := Lib.hid h; clear h
  have Hd := Lib.hid hd; clear hd
  go_enter Try.func72, Try.ntmps72
  go_wp2_with fail
  go_loop [5, 6] (fun s i => ∃ (j : Nat) (ii : Int), j ≤ zs.length ∧ ii = (j : Int) - 1 ∧ s = .int .i64 (capV b (zs.drop j)) ∧ i = .int .i64 ii) (fun _ i => (intOf i + 1).toNat)
  case atStart => exact ⟨zs.length, _, Nat.le_refl _, rfl, by rw [List.drop_length]; rfl, rfl⟩
  case round =>
    obtain ⟨j, ii, hj, hii, rfl, rfl⟩ := hrel
    cases j with
    | zero =>
      have hneg : ii < 0 := by omega
      clear hii
      go_wp2_with fail
      go_ret
      exact ⟨rfl, rfl⟩
    | succ k =>
      obtain rfl : ii = (k : Int) := by omega
      clear hii
      have hkl : k < zs.length := by omega
      obtain ⟨p1, o1, hA, hx⟩ := ints_rd H.out k hkl
      subst hA
      obtain ⟨z0, z1⟩ := digB_at Hd.out k hkl
      obtain ⟨s0, s1⟩ := capV_bd b hb (zs.drop (k + 1)) (digB_drop Hd.out _)
      have Hst := Lib.hid (capV_at b zs k hkl)
      generalize capV b (zs.drop (k + 1)) = s at *
      generalize zs[k] = z at *
      have hsb := Int.mul_nonneg s0 (by omega : 0 ≤ b)
      have hsb2 : s * b ≤ s * 16 := Int.mul_le_mul_of_nonneg_left hb2 s0
      generalize hq : s * b = q at *
      have HM := Lib.hid (fun wx => l00Min_any 1000000000001 (q + z) wx)
      rw [← Hst.out] at HM
      generalize hcv : capV b (zs.drop k) = cv at *
      have Hcv := Lib.hid hcv; clear hcv
      go_wp2_with fail
      refine (HM.out _).mono ?_; rintro e w1 ⟨rfl, rfl⟩
      go_wp2_with fail
      go_round
      case rel => exact ⟨k, _, by omega, by omega, by rw [Hcv.out], rfl⟩
      case measure => simp [intOf]
end Go.Proofs.Ytfaoilonkonmkaa
