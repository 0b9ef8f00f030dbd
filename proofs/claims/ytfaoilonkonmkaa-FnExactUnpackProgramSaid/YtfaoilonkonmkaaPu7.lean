/- Programs of hand movements, unpacked, part 7: marks; the law FnExactUnpackProgram. -/
import Derived.Test.YtfaoilonkonmkaaPu6
import Derived.Test.YtfaoilonkonmkaaPg6
namespace Go.Proofs.Ytfaoilonkonmkaa
open Go.RowKit Go.Joins

theorem forms_of {w : World} {base : Nat} {e : TypeId} {size : Nat} {v : Value} {n : Nat} {xs : List Value} (h : w.ownsRow base e size v n xs) : (v = .slice none 0 0 ∧ n = 0) ∨ ∃ g cap, v = .slice (some ⟨g, 0, none⟩) n cap := by
  rcases h.2 with ⟨rfl, h0⟩ | ⟨g, cap, cur, rfl, _⟩
  · exact .inl ⟨rfl, h0⟩
  · exact .inr ⟨g, cap, rfl⟩

def marksP (k : Int) (n : Nat) : List (Int × Int) := (List.range n).map fun (i : Nat) => (k + 2 * (i : Int), k + 2 * (i : Int) + 1)
theorem marksP_len (k : Int) (n : Nat) : (marksP k n).length = n := by simp [marksP]
theorem marksP_at (k : Int) (n i : Nat) (h : i < n) : (marksP k n)[i]'(by rw [marksP_len]; exact h) = (k + 2 * (i : Int), k + 2 * (i : Int) + 1) := by simp [marksP]
theorem marksP_succ (k : Int) (n : Nat) : marksP k (n + 1) = marksP k n ++ [(k + 2 * (n : Int), k + 2 * (n : Int) + 1)] := by
  unfold marksP
  rw [List.range_succ, List.map_append]; rfl

set_option maxRecDepth 100000 in
set_option maxHeartbeats 800000 in
theorem heldInstrS_any (B : Nat) (v : Value) (k0 : Int) (n : Nat) (w : World) (h : Rd w B v n 2 (progs (marksP k0 n))) (hk0 : 0 ≤ k0) (hk : k0 + 2 * n ≤ 4611686018427387904) :
    Calls Try.prog 30 #[v, .int .i64 k0] w fun e w' => e = .returned (.int .i64 (k0 + 2 * n)) ∧ w = w' := by
  have h' : Rd w B v (marksP k0 n).length 2 (progs (marksP k0 n)) := by rw [marksP_len]; exact h
  have H := Lib.hid h'
  obtain ⟨_, A, c, rfl, _⟩ := h
  clear h'
  go_enter Try.func30, Try.ntmps30
  go_wp2_with fail
  go_loop [1, 5] (fun a i => ∃ k : Nat, k ≤ n ∧ i = .int .i64 (k : Int) ∧ a = .int .i64 (k0 + 2 * k)) (fun _ i => n - (intOf i).toNat)
  case atStart => exact ⟨0, Nat.zero_le _, rfl, by simp⟩
  case round =>
    obtain ⟨k, hkn, rfl, rfl⟩ := hrel
    by_cases hlt : k < n
    · obtain ⟨b1, o1, hA, _, hx, hy⟩ := progs_rd H.out k (by rw [marksP_len]; exact hlt)
      subst hA
      rw [marksP_at k0 n k hlt] at hx hy
      dsimp only at hx hy
      have hlt' : (k : Int) < (n : Int) := by omega
      go_wp2_with fail
      go_round
      case rel => exact ⟨k + 1, by omega, by go_num, by first | go_num | (congr 1; omega)⟩
      case measure => simp [intOf]; omega
    · have hlt' : (n : Int) ≤ (k : Int) := by omega
      go_wp2_with fail
      go_ret
      obtain rfl : k = n := by omega
      exact ⟨rfl, rfl⟩

set_option maxRecDepth 100000 in
set_option maxHeartbeats 800000 in
theorem markInstrS_any (base : Nat) (v : Value) (k0 : Int) (n : Nat) (xs : List Value) (w : World) (h : w.ownsRow base 109 2 v n xs) (hk0 : 0 ≤ k0) (hk : k0 + 2 * n ≤ 4611686018427387904) :
    Calls Try.prog 29 #[v, .int .i64 k0] w fun e w' => e = .returned (.int .i64 (k0 + 2 * n)) ∧ w.grownBy w' v.ownBlock ∧ w'.ownsRow base 109 2 v n (progs (marksP k0 n)) := by
  have hl : xs.length = n * 2 := by simpa using h.1
  have Hl := Lib.hid hl; clear hl
  rcases forms_of h with ⟨rfl, rfl⟩ | ⟨g, cap, rfl⟩
  · have hg0 : w.grownBy w (Value.slice none 0 0).ownBlock := ⟨rfl, rfl, rfl, Nat.le_refl _, fun _ _ _ => rfl⟩
    have Ho := Lib.hid (World.ownsRow_nil w base 109 2)
    clear h
    go_enter Try.func29, Try.ntmps29
    go_wp2_with fail
    go_loop [1, 5] (fun a i => i = .int .i64 0 ∧ a = .int .i64 k0) (fun _ _ => 0)
    case atStart => exact ⟨rfl, rfl⟩
    case round =>
      obtain ⟨rfl, rfl⟩ := hrel
      go_wp2_with fail
      go_ret
      exact ⟨by simp, hg0, by simpa [marksP, progs] using Ho.out⟩
  · have hg0 : w.grownBy w (some g) := ⟨rfl, rfl, rfl, Nat.le_refl _, fun _ _ _ => rfl⟩
    have Hsh := Lib.hid h
    clear h
    go_enter Try.func29, Try.ntmps29
    go_wp2_with fail
    go_loopw [1, 5] (fun a i wr => ∃ k : Nat, k ≤ n ∧ i = .int .i64 (k : Int) ∧ a = .int .i64 (k0 + 2 * k) ∧ wr.ownsRow base 109 2 (.slice (some ⟨g, 0, none⟩) n cap) n (progs (marksP k0 k) ++ xs.drop (k * 2)) ∧ w.grownBy wr (some g)) (fun _ i _ => n - (intOf i).toNat)
    case atStart => exact ⟨0, Nat.zero_le _, rfl, by simp, by simpa [marksP, progs] using Hsh.out, hg0⟩
    case round =>
      obtain ⟨k, hkn, rfl, rfl, hown, hgr⟩ := hrel
      by_cases hlt : k < n
      · have hlt' : (k : Int) < (n : Int) := by omega
        have hset : ((progs (marksP k0 k) ++ xs.drop (k * 2)).set (k * 2) (.int .i64 (k0 + 2 * k))).set (k * 2 + 1) (.int .i64 (k0 + 2 * k + 1)) = progs (marksP k0 (k + 1)) ++ xs.drop ((k + 1) * 2) := by
          have hlen : (progs (marksP k0 k)).length = k * 2 := by rw [progs_len, marksP_len]
          have hx2 := Hl.out
          rw [List.set_append_right _ _ (by omega), hlen, Nat.sub_self, List.drop_eq_getElem_cons (by omega), List.set_cons_zero, List.set_append_right _ _ (by omega), hlen, Nat.add_sub_cancel_left, List.drop_eq_getElem_cons (by omega), List.set_cons_succ, List.set_cons_zero, marksP_succ]
          unfold progs
          rw [List.flatMap_append, List.append_assoc, show (k + 1) * 2 = k * 2 + 1 + 1 by omega]
          rfl
        have Hset := Lib.hid hset; clear hset
        obtain ⟨u, hu⟩ : ∃ u, (progs (marksP k0 k) ++ xs.drop (k * 2))[k * 2]? = some u := ⟨_, List.getElem?_eq_getElem (by have := hown.1; omega)⟩
        obtain ⟨u', hu'⟩ : ∃ u, (progs (marksP k0 k) ++ xs.drop (k * 2))[k * 2 + 1]? = some u := ⟨_, List.getElem?_eq_getElem (by have := hown.1; omega)⟩
        have hc : wr.cell? ⟨g, k * 2, none⟩ = some u := (hown.cellAt (k * 2) (by omega)).trans hu
        have hc' : wr.cell? ⟨g, k * 2 + 1, none⟩ = some u' := (hown.cellAt (k * 2 + 1) (by omega)).trans hu'
        have hf : wr.frozen? ⟨g, k * 2, none⟩ = false := hown.frozenAt (k * 2)
        have hf' : wr.frozen? ⟨g, k * 2 + 1, none⟩ = false := hown.frozenAt (k * 2 + 1)
        obtain ⟨ho2, hg2⟩ := hown.stored (k * 2) (.int .i64 (k0 + 2 * k))
        obtain ⟨ho3, hg3⟩ := ho2.stored (k * 2 + 1) (.int .i64 (k0 + 2 * k + 1))
        rw [Hset.out] at ho3
        have Ho3 := Lib.hid ho3
        have Hg3 := Lib.hid (grown_trans (grown_trans hgr hg2) hg3)
        clear hu hu' hown hg2 hg3 ho2 ho3 hgr
        go_wp2_with fail
        go_roundw
        case rel => exact ⟨k + 1, by omega, by go_num, by first | go_num | (congr 1; omega), Ho3.out, Hg3.out⟩
        case measure => simp [intOf]; omega
      · obtain rfl : k = n := by omega
        rw [List.drop_of_length_le (by rw [Hl.out]; exact Nat.le_refl _), List.append_nil] at hown
        have Hown := Lib.hid hown; clear hown
        go_wp2_with fail
        go_ret
        exact ⟨rfl, hgr, Hown.out⟩

theorem resI_len {s : List UInt8} : ((resI s).getD []).length ≤ 120 := by
  cases h : resI s with
  | none => simp
  | some l => exact (okProg_all ((resI_iff s l).1 h).1).2

set_option maxRecDepth 100000 in
set_option maxHeartbeats 1600000 in
theorem walkFnExactUnpackProgram (s : ByteArray) (_ws : s.size ≤ maxLen) (w : World) :
    Calls Try.prog 6 #[.string s] w fun e w' => e = .returned (.bool true) ∧ Below w.heap.size w w' := by
  by_cases hs : s.size ≤ 1048576
  rotate_left
  · have h' : (1048576 : Int) < (s.size : Int) := by omega
    have hb0 := Below.refl w.heap.size w
    go_enter Try.func6, Try.ntmps6
    go_wp2_with fail
    go_ret
    exact ⟨rfl, hb0⟩
  · have h' : (s.size : Int) ≤ 1048576 := by omega
    have HS := Lib.hid (fun wx => UnpackS_any s wx hs)
    have HI := Lib.hid (fun wx => UnpackI_any s wx hs)
    rw [res_eq] at HS
    have hlen := resI_len (s := s.data.toList)
    generalize resI s.data.toList = res at *
    unfold RetU at HS HI
    generalize hL : res.getD [] = L at *
    generalize hC : (if res.isSome = true then (0 : Int) else 8) = C at *
    clear hL hC
    generalize hn : L.length = n at *
    have Hn := Lib.hid hn; clear hn
    go_enter Try.func6, Try.ntmps6
    go_wp2_with fail
    refine (HS.out _).mono ?_; rintro e w1 ⟨v1, rfl, ho1, hb1⟩
    have Hr1 := Lib.hid (Rd.of_own ho1)
    obtain ⟨_, A1, c1, rfl, _⟩ := Rd.of_own ho1
    clear ho1
    go_wp2_with fail
    refine (HI.out _).mono ?_; rintro e w2 ⟨v2, rfl, ho2, hb2⟩
    have hb02 := hb1.trans (hb2.mono hb1.size)
    have hz1 := hb1.size
    have Ho2 := Lib.hid ho2
    have Hr2 := Lib.hid (Rd.of_own ho2)
    have Hr12 := Lib.hid (Hr1.out.below hb2)
    obtain ⟨_, A2, c2, rfl, _⟩ := Rd.of_own ho2
    have hz2 := hb2.size
    have HE := Lib.hid (eqInstrS_same _ _ _ _ L w2 (by rw [Hn.out]; exact Hr2.out) (by rw [Hn.out]; exact Hr12.out) (Nat.le_refl _) hz2 (by rw [Hn.out]; omega))
    clear ho2 hb2 hb1 Hr2
    go_wp2_with fail
    refine HE.out.mono ?_; rintro e w3 ⟨rfl, hb3⟩
    have hb03 := hb02.trans (hb3.mono hb02.size)
    have Ho3 := Lib.hid (own_below Ho2.out hb3)
    have Hr13 := Lib.hid (Hr12.out.below (hb3.mono hz2))
    have hz3 := hb3.size
    clear HE Ho2 Hr12 hb3 hb02
    go_wp2_with fail
    refine (markInstrS_any _ _ 1 n _ w3 Ho3.out (by omega) (by omega)).mono ?_; rintro e w4 ⟨rfl, hg4, ho4⟩
    have hb04 : Below w.heap.size w w4 := hb03.grown hg4 hb03.size (fun k hk => Nat.le_trans hz1 ((Ho3.out.lt k hk).1))
    have Ho4 := Lib.hid ho4
    have Hr4 := Lib.hid (Rd.of_own ho4)
    have hz23 : w1.heap.size ≤ w3.heap.size := Nat.le_trans hz2 hz3
    have Hr14 := Lib.hid (Hr13.out.keep (w' := w4) fun p hp => World.cell?_of_block (hg4.block p.block (Nat.lt_of_lt_of_le hp hz23) (fun e => by have := (Ho3.out.lt _ e.symm).1; omega)))
    have hz4 := hg4.size
    clear ho4
    go_wp2_with fail
    refine (heldInstrS_any _ _ 1 n w4 Hr4.out (by omega) (by omega)).mono ?_; rintro e w5 ⟨rfl, rfl⟩
    clear Hr13 hg4 Ho3 hb03
    go_wp2_with fail
    refine (HI.out _).mono ?_; rintro e w6 ⟨v6, rfl, ho6, hb6⟩
    have hb06 := hb04.trans (hb6.mono hb04.size)
    have Hr6 := Lib.hid (Rd.of_own ho6)
    obtain ⟨_, A6, c6, rfl, _⟩ := Rd.of_own ho6
    have hz14 : w1.heap.size ≤ w4.heap.size := Nat.le_trans hz23 hz4
    have Hr16 := Lib.hid (Hr14.out.below (hb6.mono hz14))
    have Hr26 := Lib.hid (Hr4.out.below hb6)
    have hz6 := hb6.size
    have HE := Lib.hid (eqInstrS_same _ _ _ _ L w6 (by rw [Hn.out]; exact Hr6.out) (by rw [Hn.out]; exact Hr16.out) (Nat.le_refl _) (Nat.le_trans hz14 hz6) (by rw [Hn.out]; omega))
    clear ho6 hb6 Hr14 Hr6 Hr4 hb04
    go_wp2_with fail
    refine HE.out.mono ?_; rintro e w7 ⟨rfl, hb7⟩
    have hb07 := hb06.trans (hb7.mono hb06.size)
    have Hr27 := Lib.hid (Hr26.out.below (hb7.mono hz6))
    clear HE hb7 hb06 Hr26 Hr16
    go_wp2_with fail
    refine (heldInstrS_any _ _ 1 n w7 Hr27.out (by omega) (by omega)).mono ?_; rintro e w8 ⟨rfl, rfl⟩
    go_wp2_with fail
    go_ret
    exact ⟨rfl, hb07⟩
end Go.Proofs.Ytfaoilonkonmkaa
