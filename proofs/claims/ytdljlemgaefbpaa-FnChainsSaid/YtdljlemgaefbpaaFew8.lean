/- Fewest turns, part 8: drawn turns. -/
import Derived.Test.YtdljlemgaefbpaaFew7
import Derived.Deep.RegionLaw
namespace Go.Proofs.Ytdljlemgaefbpaa
open Go.RowKit Go.Joins

theorem val_bd {b M : Nat} : ∀ l : List Int, (∀ x ∈ l, -(M : Int) ≤ x ∧ x ≤ M) → -((M * (b + 1) ^ l.length : Nat) : Int) ≤ val b l ∧ val b l ≤ ((M * (b + 1) ^ l.length : Nat) : Int)
  | [], _ => by simp [val]
  | t :: ts, h => by
    have h1 := val_bd (b := b) (M := M) ts (fun x hx => h x (by simp [hx]))
    have h2 := h t (by simp)
    have h3 := mul_bd h1 b b (Nat.le_refl _)
    have h4 : M * (b + 1) ^ (ts.length + 1) = M * (b + 1) ^ ts.length * b + M * (b + 1) ^ ts.length := by rw [Nat.pow_succ, ← Nat.mul_assoc, Nat.mul_add, Nat.mul_one]
    have h5 : M ≤ M * (b + 1) ^ ts.length := Nat.le_mul_of_pos_right _ (Nat.pow_pos (by omega))
    show _ ≤ t + val b ts * b ∧ t + val b ts * b ≤ _
    rw [List.length_cons, h4]
    omega
theorem at0_mem {l : List Int} {k : Nat} (h : k < l.length) : at0 l k ∈ l := by
  unfold at0; rw [List.getD_eq_getElem?_getD, List.getElem?_eq_getElem h]; exact List.getElem_mem h
/-- drawn turns are valid -/
theorem tok_drawn {b : Nat} {l : List Int} {y : Int} (hb : 2 ≤ b) (hb2 : b ≤ 16) (hl : l.length ≤ 5) (h : ∀ x ∈ l, -4 ≤ x ∧ x ≤ 4) (hy : 1 ≤ y ∧ y ≤ 3) : TOk b (l ++ [y]) := by
  have hall : ∀ x ∈ l ++ [y], -((4 : Nat) : Int) ≤ x ∧ x ≤ (4 : Nat) := by
    intro x hx
    rcases List.mem_append.1 hx with hx | hx
    · have := h x hx; omega
    · rw [List.mem_singleton.1 hx]; omega
  refine ⟨hb, hb2, by simp; omega, fun k hk => ?_, fun k hk => ?_, fun k hk => ?_⟩
  · have := hall _ (at0_mem hk); omega
  · have : k = l.length := by simp at hk; omega
    subst this
    simp [at0, List.getD]; omega
  · have h1 := val_bd (b := b) (M := 4) ((l ++ [y]).drop k) (fun x hx => hall x (List.mem_of_mem_drop hx))
    have h2 : ((l ++ [y]).drop k).length ≤ 6 := by simp; omega
    have h3 : (b + 1) ^ ((l ++ [y]).drop k).length ≤ 17 ^ 6 := Nat.le_trans (Nat.pow_le_pow_left (show b + 1 ≤ 17 by omega) _) (Nat.pow_le_pow_right (by omega) h2)
    have h4 : 4 * (b + 1) ^ ((l ++ [y]).drop k).length ≤ 4 * 17 ^ 6 := Nat.mul_le_mul_left _ h3
    omega
theorem tok_gn {b N : Nat} {dg : Nat → Int} {nx : Nat → Nat} (hb : 2 ≤ b) (hb2 : b ≤ 16) (hN : N ≤ 62500000) (hx : ∀ n, 0 < n → nx n < n) (hh : ∀ n, 0 < n → nx n ≤ (n + 1) / 2) (hv : ∀ n, 0 < n → dg n + (nx n : Int) * (b : Int) = n) (hd : ∀ n, -(b : Int) ≤ dg n ∧ dg n ≤ b) : TOk b (gn dg nx N) := by
  have hl := gn_len hx hh (dg := dg) 26 N (by omega)
  refine ⟨hb, hb2, by omega, fun k hk => ?_, fun k hk => ?_, fun k hk => ?_⟩
  · obtain ⟨m, _, _, h3⟩ := gn_at (dg := dg) hx k N hk
    have := hd m
    have e : at0 (gn dg nx N) k = dg m := by unfold at0; rw [List.getD_eq_getElem?_getD, h3]; rfl
    omega
  · obtain ⟨t, h1, h2⟩ := gn_last (dg := dg) (b := b) hx hv N k hk
    have e : at0 (gn dg nx N) k = t := by unfold at0; rw [List.getD_eq_getElem?_getD, h1]; rfl
    rw [e]; exact h2
  · by_cases e : k < (gn dg nx N).length
    · obtain ⟨m, _, h2, h3⟩ := gn_drop (dg := dg) hx k N e
      rw [h3, gn_val hx hv]
      omega
    · rw [List.drop_of_length_le (by omega)]
      simp [val]
theorem tok_few {b N : Nat} (hb : 2 ≤ b) (hb2 : b ≤ 16) (hN : N ≤ 62500000) : TOk b (few b N) := tok_gn hb hb2 hN (nxF_lt hb) (nxF_half hb) dgF_val (dgF_bd hb)
theorem tok_pln {b N : Nat} (hb : 2 ≤ b) (hb2 : b ≤ 16) (hN : N ≤ 62500000) : TOk b (pln b N) := tok_gn hb hb2 hN (nxP_lt hb) (nxP_half hb) dgP_val (dgP_bd hb)
end Go.Proofs.Ytdljlemgaefbpaa
