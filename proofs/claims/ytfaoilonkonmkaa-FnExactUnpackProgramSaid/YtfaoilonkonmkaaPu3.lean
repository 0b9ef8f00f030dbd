/- Programs of hand movements, unpacked, part 3: the reference's reading of a number. -/
import Derived.Test.YtfaoilonkonmkaaPu2
namespace Go.Proofs.Ytfaoilonkonmkaa
open Go.RowKit Go.Joins

theorem pow7 : ∀ j : Nat, (2 : Int) ^ (7 * j) = ((128 ^ j : Nat) : Int)
  | 0 => by simp
  | j + 1 => by
    rw [Nat.mul_succ, Int.pow_add, pow7 j, Nat.pow_succ, Int.natCast_mul]
    simp

def numV (l : List UInt8) : Nat × Nat := match numF 6 1 0 l with
  | some x => x
  | none => (0, 0)

set_option maxRecDepth 100000 in
set_option maxHeartbeats 1600000 in
theorem l27Number_any (s : ByteArray) (w : World) :
    Calls Try.prog 88 #[.string s] w fun e w' => e = .returned (.tuple #[.int .i64 ((numV s.data.toList).1 : Nat), .int .i64 ((numV s.data.toList).2 : Nat)]) ∧ w = w' := by
  have hsz : s.data.toList.length = s.size := by simp
  obtain ⟨L, hL⟩ : ∃ L, L = s.data.toList := ⟨_, rfl⟩
  rw [← hL] at hsz
  have Hsz := Lib.hid hsz
  have HL := Lib.hid hL
  rw [← hL]
  clear hsz hL
  go_enter Try.func88, Try.ntmps88
  go_wp2_with fail
  go_loop [4, 5] (fun n i => ∃ (j u a : Nat), j ≤ 6 ∧ u = 128 ^ j ∧ a < u ∧ restF (6 - j) u a j (L.drop j) = numF 6 1 0 L ∧ n = .int .i64 (a : Int) ∧ i = .int .i64 (j : Int)) (fun _ i => 7 - (intOf i).toNat)
  case atStart => exact ⟨0, 1, 0, by omega, rfl, by omega, restF_0 L 6, rfl, rfl⟩
  case round =>
    obtain ⟨j, u, a, hj, hu, ha, heq, rfl, rfl⟩ := hrel
    have Heq := Lib.hid heq; clear heq
    have Hu := Lib.hid hu
    by_cases hlt : j < 6 ∧ j < L.length
    · obtain ⟨hj7, hjl⟩ := hlt
      have hju : u ≤ 128 ^ 5 := by rw [hu]; exact Nat.pow_le_pow_right (by omega) (by omega)
      have hpw : (128 : Nat) ^ 5 = 34359738368 := by decide
      rw [hpw] at hju
      clear hpw
      have hks : j < s.size := by have := Hsz.out; omega
      have hks1 : (j : Int) < (s.size : Int) := by omega
      have hks2 : (j : Int) < 6 := by omega
      have hget : Hid (L[j] = s[j]) := Lib.hid (by
        have h1 := HL.out
        subst h1
        rfl)
      have hdl := Lib.hid (List.drop_eq_getElem_cons hjl)
      rw [hget.out] at hdl
      have hcc := s[j].toNat_lt
      have hce : (s[j].toNat : Int) < 256 := by omega
      obtain ⟨d, hd⟩ : ∃ d, d = s[j].toNat % 128 := ⟨_, rfl⟩
      have hd8 : d < 128 := by omega
      obtain ⟨P, hP⟩ : ∃ P, P = d * u := ⟨_, rfl⟩
      have hPb : P ≤ 127 * u := by rw [hP]; exact Nat.mul_le_mul_right u (by omega)
      have Hd := Lib.hid hd
      have HP := Lib.hid hP
      have hm0 : (s[j].toNat : Int) % 128 = (d : Int) := by omega
      have hy0 : (0 : Int) ≤ 7 * (j : Int) := by omega
      have hy1 : 7 * (j : Int) ≤ 64 := by omega
      have Hp2 : Hid ((d : Int) * 2 ^ (7 * j) = (P : Int)) := Lib.hid (by
        rw [pow7, ← hu, hP, Int.natCast_mul])
      have hPB : P ≤ 4363686772736 := by omega
      have Hw1 := Lib.hid (IntWalk.wrap64_in (P : Int) ⟨by omega, by omega⟩)
      have Hw2 := Lib.hid (IntWalk.wrap64_in ((a : Int) + (P : Int)) ⟨by omega, by omega⟩)
      clear hd hP hu
      by_cases hc : s[j].toNat < 128
      · have hc' : (s[j].toNat : Int) < 128 := by omega
        have hfin : Hid (numV L = (a + P, j + 1)) := Lib.hid (by
          unfold numV
          rw [← Heq.out, hdl.out]
          obtain ⟨f, hf⟩ : ∃ f, 6 - j = f + 1 := ⟨5 - j, by omega⟩
          rw [hf, restF_last f u a j _ _ hc, ← Hd.out, ← HP.out])
        clear hc
        go_wp2_with fail
        go_ret2
        rw [hfin.out]; exact ⟨by rw [Hp2.out, Hw1.out, Hw2.out]; simp, rfl⟩
      · have hc' : (128 : Int) ≤ (s[j].toNat : Int) := by omega
        have hfin : Hid (restF (6 - (j + 1)) (u * 128) (a + P) (j + 1) (L.drop (j + 1)) = numF 6 1 0 L) := Lib.hid (by
          rw [← Heq.out, hdl.out]
          obtain ⟨f, hf⟩ : ∃ f, 6 - j = f + 1 := ⟨5 - j, by omega⟩
          rw [hf, restF_more f u a j _ _ hc, ← Hd.out, ← HP.out, show 6 - (j + 1) = f by omega])
        clear hc
        go_wp2_with fail
        go_round
        case rel => exact ⟨j + 1, u * 128, a + P, by omega, by rw [Hu.out, Nat.pow_succ], by omega, hfin.out, by rw [Hp2.out, Hw1.out, Hw2.out]; go_num, by go_num⟩
        case measure => simp [intOf]; omega
    · have hno : Hid (numV L = (0, 0)) := Lib.hid (by
        unfold numV
        rw [← Heq.out, restF_end _ _ _ _ _ (by
          by_cases h7 : j < 6
          · exact .inr (List.drop_of_length_le (by omega))
          · exact .inl (by omega))])
      clear hu
      by_cases hks : j < s.size
      · have h8 : (6 : Int) ≤ (j : Int) := by have := Hsz.out; omega
        have hks1 : (j : Int) < (s.size : Int) := by omega
        clear hlt
        go_wp2_with fail
        go_ret2
        rw [hno.out]; exact ⟨rfl, rfl⟩
      · have hks1 : (s.size : Int) ≤ (j : Int) := by omega
        clear hlt
        go_wp2_with fail
        go_ret2
        rw [hno.out]; exact ⟨rfl, rfl⟩
end Go.Proofs.Ytfaoilonkonmkaa
