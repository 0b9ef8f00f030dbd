/- Instructions: marks, lists that grow. -/
import Derived.Test.YtjkjlpjeamifbaaDoorPg3
namespace Go.Proofs.YtjkjlpjeamifbaaDoor
open Go.RowKit Go.Joins

theorem progs_snoc (l : List (Int × Int)) (op a : Int) : progs l ++ (#[Value.int .i64 op, Value.int .i64 a] : Array Value).toList = progs (l ++ [(op, a)]) := by
  unfold progs
  rw [List.flatMap_append]; rfl
theorem ones_two (a b : Int) : ∀ u ∈ (#[Value.int .i64 a, Value.int .i64 b] : Array Value).toList, u.oneCell' = true := by
  intro u hu
  simp at hu
  rcases hu with rfl | rfl <;> rfl
theorem forms_of {w : World} {base : Nat} {e : TypeId} {size : Nat} {v : Value} {n : Nat} {xs : List Value} (h : w.ownsRow base e size v n xs) : (v = .slice none 0 0 ∧ n = 0) ∨ ∃ g cap, v = .slice (some ⟨g, 0, none⟩) n cap := by
  rcases h.2 with ⟨rfl, h0⟩ | ⟨g, cap, cur, rfl, _⟩
  · exact .inl ⟨rfl, h0⟩
  · exact .inr ⟨g, cap, rfl⟩
def marksP (k : Int) (n : Nat) : List (Int × Int) := (List.range n).map fun (i : Nat) => (k + 2 * (i : Int), k + 2 * (i : Int) + 1)
theorem marksP_len (k : Int) (n : Nat) : (marksP k n).length = n := by simp [marksP]
theorem marksP_at (k : Int) (n i : Nat) (h : i < n) : (marksP k n)[i]'(by rw [marksP_len]; exact h) = (k + 2 * (i : Int), k + 2 * (i : Int) + 1) := by simp [marksP]
theorem marksP_succ (k : Int) (n : Nat) : marksP k (n + 1) = marksP k n ++ [(k + 2 * (n : Int), k + 2 * (n : Int) + 1)] := by
  unfold marksP
  rw [List.range_succ, List.map_append]; rfl
set_option maxRecDepth 100000 in
set_option maxHeartbeats 800000 in
theorem heldInstrS_any (B : Nat) (v : Value) (k0 : Int) (n : Nat) (w : World) (h : Rd w B v n 2 (progs (marksP k0 n))) (hk0 : 0 ≤ k0) (hk : k0 + 2 * n ≤ 4611686018427387904) :
    Calls Tryd.prog 25 #[v, .int .i64 k0] w fun e w' => e = .returned (.int .i64 (k0 + 2 * n)) ∧ w = w' := by
  have h' : Rd w B v (marksP k0 n).length 2 (progs (marksP k0 n)) := by rw [marksP_len]; exact h
  have H := Lib.hid h'
  obtain ⟨_, A, c, rfl, _⟩ := h
  clear h'
  go_enter Tryd.func25, Tryd.ntmps25
  go_wp2_with fail
  go_loop [1, 5] (fun a i => ∃ k : Nat, k ≤ n ∧ i = .int .i64 (k : Int) ∧ a = .int .i64 (k0 + 2 * k)) (fun _ i => n - (intOf i).toNat)
  case atStart => exact ⟨0, Nat.zero_le _, rfl, by simp⟩
  case round =>
    obtain ⟨k, hkn, rfl, rfl⟩ := hrel
    by_cases hlt : k < n
    · obtain ⟨b1, o1, hA, _, hx, hy⟩ := progs_rd H.out k (by rw [marksP_len]; exact hlt)
      subst hA
      rw [marksP_at k0 n k hlt] at hx hy
      dsimp only at hx hy
      have hlt' : (k : Int) < (n : Int) := by omega
      go_wp2_with fail
      go_round
      case rel => exact ⟨k + 1, by omega, by go_num, by first | go_num | (congr 1; omega)⟩
      case measure => simp [intOf]; omega
    · have hlt' : (n : Int) ≤ (k : Int) := by omega
      go_wp2_with fail
      go_ret
      obtain rfl : k = n := by omega
      exact ⟨rfl, rfl⟩
set_option maxRecDepth 100000 in
set_option maxHeartbeats 800000 in
theorem markInstrS_any (base : Nat) (v : Value) (k0 : Int) (n : Nat) (xs : List Value) (w : World) (h : w.ownsRow base 70 2 v n xs) (hk0 : 0 ≤ k0) (hk : k0 + 2 * n ≤ 4611686018427387904) :
    Calls Tryd.prog 24 #[v, .int .i64 k0] w fun e w' => e = .returned (.int .i64 (k0 + 2 * n)) ∧ w.grownBy w' v.ownBlock ∧ w'.ownsRow base 70 2 v n (progs (marksP k0 n)) := by
  have hl : xs.length = n * 2 := by simpa using h.1
  have Hl := Lib.hid hl; clear hl
  rcases forms_of h with ⟨rfl, rfl⟩ | ⟨g, cap, rfl⟩
  · have hg0 : w.grownBy w (Value.slice none 0 0).ownBlock := ⟨rfl, rfl, rfl, Nat.le_refl _, fun _ _ _ => rfl⟩
    have Ho := Lib.hid (World.ownsRow_nil w base 70 2)
    clear h
    go_enter Tryd.func24, Tryd.ntmps24
    go_wp2_with fail
    go_loop [1, 5] (fun a i => i = .int .i64 0 ∧ a = .int .i64 k0) (fun _ _ => 0)
    case atStart => exact ⟨rfl, rfl⟩
    case round =>
      obtain ⟨rfl, rfl⟩ := hrel
      go_wp2_with fail
      go_ret
      exact ⟨by simp, hg0, by simpa [marksP, progs] using Ho.out⟩
  · have hg0 : w.grownBy w (some g) := ⟨rfl, rfl, rfl, Nat.le_refl _, fun _ _ _ => rfl⟩
    have Hsh := Lib.hid h
    clear h
    go_enter Tryd.func24, Tryd.ntmps24
    go_wp2_with fail
    go_loopw [1, 5] (fun a i wr => ∃ k : Nat, k ≤ n ∧ i = .int .i64 (k : Int) ∧ a = .int .i64 (k0 + 2 * k) ∧ wr.ownsRow base 70 2 (.slice (some ⟨g, 0, none⟩) n cap) n (progs (marksP k0 k) ++ xs.drop (k * 2)) ∧ w.grownBy wr (some g)) (fun _ i _ => n - (intOf i).toNat)
    case atStart => exact ⟨0, Nat.zero_le _, rfl, by simp, by simpa [marksP, progs] using Hsh.out, hg0⟩
    case round =>
      obtain ⟨k, hkn, rfl, rfl, hown, hgr⟩ := hrel
      by_cases hlt : k < n
      · have hlt' : (k : Int) < (n : Int) := by omega
        have hset : ((progs (marksP k0 k) ++ xs.drop (k * 2)).set (k * 2) (.int .i64 (k0 + 2 * k))).set (k * 2 + 1) (.int .i64 (k0 + 2 * k + 1)) = progs (marksP k0 (k + 1)) ++ xs.drop ((k + 1) * 2) := by
          have hlen : (progs (marksP k0 k)).length = k * 2 := by rw [progs_len, marksP_len]
          have hx2 := Hl.out
          rw [List.set_append_right _ _ (by omega), hlen, Nat.sub_self, List.drop_eq_getElem_cons (by omega), List.set_cons_zero, List.set_append_right _ _ (by omega), hlen, Nat.add_sub_cancel_left, List.drop_eq_getElem_cons (by omega), List.set_cons_succ, List.set_cons_zero, marksP_succ]
          unfold progs
          rw [List.flatMap_append, List.append_assoc, show (k + 1) * 2 = k * 2 + 1 + 1 by omega]
          rfl
        have Hset := Lib.hid hset; clear hset
        obtain ⟨u, hu⟩ : ∃ u, (progs (marksP k0 k) ++ xs.drop (k * 2))[k * 2]? = some u := ⟨_, List.getElem?_eq_getElem (by have := hown.1; omega)⟩
        obtain ⟨u', hu'⟩ : ∃ u, (progs (marksP k0 k) ++ xs.drop (k * 2))[k * 2 + 1]? = some u := ⟨_, List.getElem?_eq_getElem (by have := hown.1; omega)⟩
        have hc : wr.cell? ⟨g, k * 2, none⟩ = some u := (hown.cellAt (k * 2) (by omega)).trans hu
        have hc' : wr.cell? ⟨g, k * 2 + 1, none⟩ = some u' := (hown.cellAt (k * 2 + 1) (by omega)).trans hu'
        have hf : wr.frozen? ⟨g, k * 2, none⟩ = false := hown.frozenAt (k * 2)
        have hf' : wr.frozen? ⟨g, k * 2 + 1, none⟩ = false := hown.frozenAt (k * 2 + 1)
        obtain ⟨ho2, hg2⟩ := hown.stored (k * 2) (.int .i64 (k0 + 2 * k))
        obtain ⟨ho3, hg3⟩ := ho2.stored (k * 2 + 1) (.int .i64 (k0 + 2 * k + 1))
        rw [Hset.out] at ho3
        have Ho3 := Lib.hid ho3
        have Hg3 := Lib.hid (grown_trans (grown_trans hgr hg2) hg3)
        clear hu hu' hown hg2 hg3 ho2 ho3 hgr
        go_wp2_with fail
        go_roundw
        case rel => exact ⟨k + 1, by omega, by go_num, by first | go_num | (congr 1; omega), Ho3.out, Hg3.out⟩
        case measure => simp [intOf]; omega
      · obtain rfl : k = n := by omega
        rw [List.drop_of_length_le (by rw [Hl.out]; exact Nat.le_refl _), List.append_nil] at hown
        have Hown := Lib.hid hown; clear hown
        go_wp2_with fail
        go_ret
        exact ⟨rfl, hgr, Hown.out⟩
end Go.Proofs.YtjkjlpjeamifbaaDoor
