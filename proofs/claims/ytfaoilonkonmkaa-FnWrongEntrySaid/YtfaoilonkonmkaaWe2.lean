/- The law FnWrongEntry: the walk. -/
import Derived.Test.YtfaoilonkonmkaaWe1
import Derived.Deep.RegionLaw
namespace Go.Proofs.Ytfaoilonkonmkaa
open Go.RowKit Go.Joins

theorem vals14 {c : Nat → Int} {m n : Nat} (hS : Small 20 m c) (hm : m ≤ 5) (hn : n ≤ 14) : Small 171600 n (fun x => nval c x m) := by
  intro x hx
  have h1 := nval_bd hS (x := x) (by omega) (by omega) m (Nat.le_refl _)
  have h2 : m * (20 * 1716) ≤ 5 * (20 * 1716) := Nat.mul_le_mul_right _ hm
  show _ ≤ nval c x m ∧ nval c x m ≤ _
  omega

set_option maxRecDepth 100000 in
set_option maxHeartbeats 3200000 in
theorem walkFnWrongEntry {W : World} (v1 : Value) (bs : List UInt8) (h1 : Rd W W.heap.size v1 bs.length 1 (bs.map byV)) (_m1 : bs.length ≤ maxLen) (v2 : Value) (cs : List UInt8) (h2 : Rd W W.heap.size v2 cs.length 1 (cs.map byV)) (_m2 : cs.length ≤ maxLen) :
    Calls Try.prog 14 #[v1, v2] W fun e w' => e = .returned (.bool true) ∧ Below W.heap.size W w' := by
  have HL := Lib.hid (a2Long_any _ _ _ _ _ _ _ _ W h1 h2)
  have HA := Lib.hid (A2Coefs_any W.heap.size v1 bs W h1 (Nat.le_refl _))
  have HAt := Lib.hid (fun n k wx hx hk => a2At_any W.heap.size v2 cs n k wx hx hk)
  have H2 := Lib.hid h2
  unfold RetC at HA
  have hb0 := Lib.hid (Below.refl W.heap.size W)
  obtain ⟨A1, c1, rfl⟩ := rd_sl h1
  obtain ⟨A2, c2, rfl⟩ := rd_sl h2
  clear h1 h2
  by_cases hlong : (decide (3000 < bs.length) || decide (3000 < cs.length)) = true
  · rw [hlong] at HL
    go_enter Try.func14, Try.ntmps14
    go_wp2_with fail
    refine HL.out.mono ?_; rintro e w1 ⟨rfl, rfl⟩
    go_wp2_with fail
    go_ret
    exact ⟨rfl, hb0.out⟩
  · have hlong' : (decide (3000 < bs.length) || decide (3000 < cs.length)) = false := by simpa using hlong
    rw [hlong'] at HL
    clear hlong hlong'
    go_enter Try.func14, Try.ntmps14
    go_wp2_with fail
    refine HL.out.mono ?_; rintro e w1 ⟨rfl, rfl⟩
    go_wp2_with fail
    refine HA.out.mono ?_; rintro e w2 ⟨v3, m, c, rfl, hm1, hm5, hS, ho2, hb2⟩
    obtain ⟨A3, c3, rfl⟩ := own_sl ho2
    obtain ⟨d, rfl⟩ : ∃ d, m = d + 1 := ⟨m - 1, by omega⟩
    have hd5 : (d : Int) ≤ 4 := by omega
    have R2 := Lib.hid (Rd.of_own ho2)
    have Hb2 := Lib.hid hb2
    have HS := Lib.hid hS
    have HA0 := Lib.hid (HAt.out 8 0 w2 (H2.out.below hb2) (by omega))
    clear hS ho2 hb2 HA HL
    go_wp2_with fail
    refine HA0.out.mono ?_; rintro e w3 ⟨⟨x, rfl, hx0, hx1, _⟩, rfl⟩
    have hx8 := hx1 (by omega)
    obtain ⟨t, rfl⟩ : ∃ t : Nat, x = (t : Int) := ⟨x.toNat, by omega⟩
    have HT := Lib.hid (TabulateNewton_any w2.heap.size (.slice A3 (d + 1) c3) (d + 1) (t + 2 + (d + 1)) c w2 R2.out (Nat.le_refl _) (by omega) hm5 HS.out (by omega) (by omega))
    rw [show ((t + 2 + (d + 1) : Nat) : Int) = (d : Int) + 3 + (t : Int) by omega] at HT
    unfold RetF0 at HT
    have Hsm := Lib.hid (vals14 HS.out hm5 (show t + 2 + (d + 1) ≤ 14 by omega))
    have Hz := Lib.hid (fun i (hi : i < t + 2) => Dn_nval c (d + 1) (by omega) i (by omega) (d + 1) (Nat.le_refl _))
    generalize hF : (fun x => nval c x (d + 1)) = F at *
    have hLn : t + 2 + (d + 1) - (d + 1) = t + 2 := by omega
    have Hw := Lib.hid (fun a e ha he => wrong_one F d (t + 2) a e (by omega) (by omega) (by omega) ha he Hz.out)
    have hnd : t + 2 + (d + 1) ≤ 14 := by omega
    have hnd2 : d + 2 < t + 2 + (d + 1) := by omega
    have hni : ((t + 2 + (d + 1) : Nat) : Int) = (d : Int) + 3 + (t : Int) := by omega
    have HzA := Lib.hid (zer_all Hz.out)
    generalize hn : t + 2 + (d + 1) = n at *
    have hw1 : (d : Int) + 3 + (t : Int) = (n : Int) := hni.symm
    rw [hw1] at HT
    have HLn := Lib.hid hLn
    clear hx0 hx1 HA0 hF hn hLn hni
    go_wp2_with fail
    refine HT.out.mono ?_; rintro e w4 ⟨v4, rfl, ho4, hb4⟩
    obtain ⟨g4, c4, rfl⟩ := own_posD ho4 (by omega)
    have HWA := Lib.hid (WrongA_any w4.heap.size _ n d F w4 (Rd.of_own ho4) (Nat.le_refl _) (by omega) (by omega) (by omega) (Hsm.out.more (by omega)) (by rw [HLn.out]; exact HzA.out))
    have Ho4 := Lib.hid ho4
    have Hb4 := Lib.hid (Hb2.out.trans (hb4.mono Hb2.out.size))
    have hz24 := Hb2.out.size
    clear ho4 hb4 HT
    go_wp2_with fail
    refine HWA.out.mono ?_; rintro e w5 ⟨rfl, hb5⟩
    have Ho5 := Lib.hid (own_below Ho4.out hb5)
    have hb05 := Hb4.out.trans (hb5.mono Hb4.out.size)
    have HA1 := Lib.hid (HAt.out (n : Int) 1 w5 (H2.out.below hb05) (by omega))
    have HA2 := Lib.hid (fun wx hx => HAt.out 50 2 wx hx (by omega))
    have H25 := Lib.hid (H2.out.below hb05)
    have Hb5 := Lib.hid hb05
    clear hb5 hb05 HWA Ho4
    go_wp2_with fail
    refine HA1.out.mono ?_; rintro e w6 ⟨⟨x, rfl, hx0, hx1, _⟩, rfl⟩
    have hxn := hx1 (by omega)
    obtain ⟨a, rfl⟩ : ∃ a : Nat, x = (a : Int) := ⟨x.toNat, by omega⟩
    obtain ⟨q4, f4⟩ := own_cellD Ho5.out a (by omega)
    have hFa := Hsm.out a (by omega)
    clear hx0 hx1 HA1
    go_wp2_with fail
    go_region_law ((first | (go_simp; go_at_call 56; refine (HA2.out _ (by first | exact H25.out | exact H25.out.drewN 1)).mono ?_; rintro e wq ⟨⟨y, rfl, hy0, hy1, _⟩, rfl⟩; have hy50 := hy1 (by omega); have hyw : IntKind.i64.wrap (1 + y) = 1 + y := IntWalk.i64_in _ (by omega); have hyw2 : IntKind.i64.wrap (F a + (1 + y)) = F a + (1 + y) := IntWalk.i64_in _ (by omega))))
    all_goals
      have ho6 := (Ho5.out.stored a (.int .i64 (F a + (1 + y)))).1.drew
      rw [tab_set] at ho6
      obtain ⟨_, hw2, hw3, hw4⟩ := Hw.out a (1 + y) (by omega) (by omega)
      have HWB := Lib.hid (WrongB_any _ _ n d a (F a) (put F a (F a + (1 + y))) _ (Rd.of_own ho6) (Nat.le_refl _) (by omega) hnd2 (by omega) ((Hsm.out.more (by omega)).put a _ (by omega)) (by rw [HLn.out]; exact hw2) (by omega) hw3 hw4)
      have Hb6 := Lib.hid ((Hb5.out.setCell (p := ⟨g4, a, none⟩) (Nat.le_trans hz24 (Ho5.out.lt _ rfl).1) (.int .i64 (F a + (1 + y)))).drew)
      clear ho6 hw2 hw3 hw4 hyw hyw2 hFa q4 f4
      go_wp2_with fail
      refine HWB.out.mono ?_; rintro e w8 ⟨rfl, hb8⟩
      have Hb8 := Lib.hid (Hb6.out.trans (hb8.mono Hb6.out.size))
      clear hb8 HWB Hb6
      go_wp2_with fail
      go_ret
      exact ⟨rfl, Hb8.out⟩
end Go.Proofs.Ytfaoilonkonmkaa
