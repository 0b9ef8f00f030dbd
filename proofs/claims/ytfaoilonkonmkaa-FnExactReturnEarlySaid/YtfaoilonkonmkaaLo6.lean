/- Loans, part 6: markLoanS. -/
import Derived.Test.YtfaoilonkonmkaaLo5
import Derived.Test.YtfaoilonkonmkaaSi5
namespace Go.Proofs.Ytfaoilonkonmkaa
open Go.RowKit Go.Joins

def marksL (k : Int) (n : Nat) : List Ln := (List.range n).map fun (i : Nat) => ⟨markT (k + 4 * (i : Int)), markT (k + 4 * (i : Int) + 1), k + 4 * (i : Int) + 1 + 1, k + 4 * (i : Int) + 1 + 1 + 1⟩
theorem marksL_len (k : Int) (n : Nat) : (marksL k n).length = n := by simp [marksL]
theorem marksL_succ (k : Int) (n : Nat) : (marksL k (n + 1)).flatMap cellsL = (marksL k n).flatMap cellsL ++ [.string (markT (k + 4 * (n : Int))), .string (markT (k + 4 * (n : Int) + 1)), .int .i64 (k + 4 * (n : Int) + 1 + 1), .int .i64 (k + 4 * (n : Int) + 1 + 1 + 1)] := by
  unfold marksL
  rw [List.range_succ, List.map_append, List.flatMap_append]; rfl

set_option maxRecDepth 100000 in
set_option maxHeartbeats 1600000 in
theorem markLoanS_any (base : Nat) (v : Value) (k0 : Int) (n : Nat) (zs : List Value) (w : World) (h : w.ownsRow base 63 4 v n zs) (hk0 : 0 ≤ k0) (hk : k0 + 4 * n ≤ 4611686018427387904) :
    Calls Try.prog 45 #[v, .int .i64 k0] w fun e w' => e = .returned (.int .i64 (k0 + 4 * n)) ∧ w.grownBy w' v.ownBlock ∧ w'.ownsRow base 63 4 v n ((marksL k0 n).flatMap cellsL) := by
  have hl : zs.length = n * 4 := by simpa using h.1
  have Hl := Lib.hid hl; clear hl
  rcases ownsRow_forms h with ⟨rfl, rfl⟩ | ⟨g, cap, rfl⟩
  · have hg0 : w.grownBy w (Value.slice none 0 0).ownBlock := ⟨rfl, rfl, rfl, Nat.le_refl _, fun _ _ _ => rfl⟩
    have Ho := Lib.hid (World.ownsRow_nil w base 63 4)
    clear h
    go_enter Try.func45, Try.ntmps45
    go_wp2_with fail
    go_loop [1, 5] (fun a i => i = .int .i64 0 ∧ a = .int .i64 k0) (fun _ _ => 0)
    case atStart => exact ⟨rfl, rfl⟩
    case round =>
      obtain ⟨rfl, rfl⟩ := hrel
      go_wp2_with fail
      go_ret
      exact ⟨by simp, hg0, by simpa [marksL] using Ho.out⟩
  · have hg0 : w.grownBy w (some g) := ⟨rfl, rfl, rfl, Nat.le_refl _, fun _ _ _ => rfl⟩
    have Hsh := Lib.hid h
    clear h
    go_enter Try.func45, Try.ntmps45
    go_wp2_with fail
    go_loopw [1, 5] (fun a i wr => ∃ k : Nat, k ≤ n ∧ i = .int .i64 (k : Int) ∧ a = .int .i64 (k0 + 4 * k) ∧ wr.ownsRow base 63 4 (.slice (some ⟨g, 0, none⟩) n cap) n ((marksL k0 k).flatMap cellsL ++ zs.drop (k * 4)) ∧ w.grownBy wr (some g)) (fun _ i _ => n - (intOf i).toNat)
    case atStart => exact ⟨0, Nat.zero_le _, rfl, by simp, by simpa [marksL] using Hsh.out, hg0⟩
    case round =>
      obtain ⟨k, hkn, rfl, rfl, hown, hgr⟩ := hrel
      by_cases hlt : k < n
      · have hlt' : (k : Int) < (n : Int) := by omega
        have hset := Lib.hid (fun a b f t => set4 ((marksL k0 k).flatMap cellsL) (zs.drop (k * 4)) (k * 4) (by rw [flat_len cellsL 4 (fun _ => rfl), marksL_len]) (by rw [List.length_drop, Hl.out]; omega) a b f t)
        have Hs := Lib.hid (marksL_succ k0 k)
        have Hmk := Lib.hid (fun q wx => markText_any q wx)
        have st : ∀ (wx : World) (cs : List Value), wx.ownsRow base 63 4 (.slice (some ⟨g, 0, none⟩) n cap) n cs → ∀ j, j < n * 4 → ∃ u, wx.cell? ⟨g, j, none⟩ = some u ∧ wx.frozen? ⟨g, j, none⟩ = false := fun wx cs hc j hj => by
          obtain ⟨u, hu⟩ : ∃ u, cs[j]? = some u := ⟨_, List.getElem?_eq_getElem (by have := hc.1; omega)⟩
          exact ⟨u, (hc.cellAt j (by omega)).trans hu, hc.frozenAt j⟩
        have St := Lib.hid st; clear st
        generalize hM1 : markT (k0 + 4 * (k : Int)) = M1 at *
        generalize hM2 : markT (k0 + 4 * (k : Int) + 1) = M2 at *
        have HM1 := Lib.hid hM1
        have HM2 := Lib.hid hM2
        clear hM1 hM2
        have Hown := Lib.hid hown; clear hown
        go_wp2_with fail
        refine (Hmk.out _ _ (by omega)).mono ?_; rintro e w2 ⟨rfl, hb2⟩
        rw [HM1.out]
        have ho2 := own_below Hown.out hb2
        obtain ⟨u0, hc0, hf0⟩ := St.out _ _ ho2 (k * 4) (by omega)
        obtain ⟨ho3, hg3⟩ := ho2.stored (k * 4) (.string M1)
        have Ho3 := Lib.hid ho3
        have Hg3 := Lib.hid (grown_trans (grown_trans hgr (grown_of_below hb2 _)) hg3)
        clear ho2 ho3 hg3 hb2 hgr
        go_wp2_with fail
        refine (Hmk.out _ _ (by omega)).mono ?_; rintro e w4 ⟨rfl, hb4⟩
        rw [HM2.out]
        have ho4 := own_below Ho3.out hb4
        obtain ⟨u1, hc1, hf1⟩ := St.out _ _ ho4 (k * 4 + 1) (by omega)
        obtain ⟨u2, hc2, hf2⟩ := St.out _ _ ho4 (k * 4 + 2) (by omega)
        obtain ⟨u3, hc3, hf3⟩ := St.out _ _ ho4 (k * 4 + 3) (by omega)
        obtain ⟨ho5, hg5⟩ := ho4.stored (k * 4 + 1) (.string M2)
        obtain ⟨ho6, hg6⟩ := ho5.stored (k * 4 + 2) (.int .i64 (k0 + 4 * (k : Int) + 1 + 1))
        obtain ⟨ho7, hg7⟩ := ho6.stored (k * 4 + 3) (.int .i64 (k0 + 4 * (k : Int) + 1 + 1 + 1))
        rw [hset.out, ← Hs.out, List.drop_drop, show k * 4 + 4 = (k + 1) * 4 by omega] at ho7
        have Ho7 := Lib.hid ho7
        have Hg7 := Lib.hid (grown_trans (grown_trans (grown_trans (grown_trans Hg3.out (grown_of_below hb4 _)) hg5) hg6) hg7)
        clear ho4 ho5 ho6 ho7 hg5 hg6 hg7 hb4 hc0 hf0
        go_wp2_with fail
        go_roundw
        case rel => exact ⟨k + 1, by omega, by go_num, by first | go_num | (congr 1; omega), Ho7.out, Hg7.out⟩
        case measure => simp [intOf]; omega
      · obtain rfl : k = n := by omega
        rw [List.drop_of_length_le (by rw [Hl.out]; exact Nat.le_refl _), List.append_nil] at hown
        have Hown := Lib.hid hown; clear hown
        go_wp2_with fail
        go_ret
        exact ⟨rfl, hgr, Hown.out⟩
end Go.Proofs.Ytfaoilonkonmkaa
