/- Similar entries, part 7: the law FnExactSimilarEntries. -/
import Derived.Test.YtfaoilonkonmkaaSi6
namespace Go.Proofs.Ytfaoilonkonmkaa
open Go.RowKit Go.Joins

theorem own_MK {B0 hi base n size : Nat} {w wr : World} {e : TypeId} {v : Value} {zs : List Value} (h : w.ownsRow base e size v n zs) (hm : MK B0 hi w wr) (hb : hi ≤ base) : wr.ownsRow base e size v n zs := by
  refine ⟨h.1, ?_⟩
  rcases h.2 with hn | ⟨g, cap, cur, rfl, hbg, hgg, rest⟩
  · exact .inl hn
  · exact .inr ⟨g, cap, cur, rfl, hbg, (hm.2 g (Nat.le_trans hb hbg) (Array.getElem?_eq_some_iff.1 hgg).1).trans hgg, rest⟩
/-- the marks fit: a list of entries from toEntryS, some worlds later -/
theorem markE_late {w5 w6 w9 : World} {xs : List Ent} {ys : List (Ent × Value)} (hm : ys.map (·.1) = xs) (ho : w6.ownsRow w5.heap.size 124 5 (.slice (some ⟨w5.heap.size, 0, none⟩) xs.length xs.length) xs.length (ys.flatMap cellsE))
    (hw : ∀ y ∈ ys, w6.ownsRow (w5.heap.size + 1) 9 1 y.2 y.1.words.length (strs y.1.words)) (hb : Below w6.heap.size w6 w9) (hl : xs.length ≤ 1048576) (hsm : ∀ x ∈ xs, x.words.length ≤ 1048576) :
    Calls Try.prog 52 #[.slice (some ⟨w5.heap.size, 0, none⟩) xs.length xs.length, .int .i64 1] w9 fun e w' => (∃ r : Int, e = .returned (.int .i64 r) ∧ 0 ≤ r) ∧ MK w5.heap.size w6.heap.size w9 w' := by
  have hlen : ys.length = xs.length := by rw [← hm, List.length_map]
  exact markEntryS_any w5.heap.size w6.heap.size xs.length ys w9 1 hlen hl (own_below ho hb) (fun y hy => ⟨_, own_below (hw y hy) hb⟩) (fun y hy g e => ((hw y hy).lt g e).2) (ho.lt _ rfl).2
    (fun y hy => hsm y.1 (by rw [← hm]; exact List.mem_map_of_mem hy)) (by omega) (by omega)

set_option maxRecDepth 100000 in
set_option maxHeartbeats 3200000 in
theorem walkFnExactSimilarEntries {W : World} (v1 : Value) (xs : List Ent) (h1 : RdE W W.heap.size v1 xs) (m1 : xs.length ≤ maxLen ∧ ∀ x ∈ xs, lenE x) (m : Int) (_wm : (Lit.int .i64 m).wf = true) :
    Calls Try.prog 11 #[v1, .int .i64 m] W fun e w' => e = .returned (.bool true) ∧ Below W.heap.size W w' := by
  have HS1 := Lib.hid (szEntryS_any W.heap.size v1 xs 1048576 W h1 (Nat.le_refl _) m1.1 m1.2 (by omega) (by omega))
  have HT1 := Lib.hid (fun wx hx hz hl hw => toEntryS_c W.heap.size v1 xs wx hx hz hl hw)
  have HU1 := Lib.hid (fun wx hx hz hl hw => toEntryS_any W.heap.size v1 xs wx hx hz hl hw)
  have H1 := Lib.hid h1
  obtain ⟨A1, c1, rfl⟩ := h1.slice
  clear h1 m1 _wm
  go_enter Try.func11, Try.ntmps11
  go_wp2_with fail
  refine HS1.out.mono ?_; rintro e w1 ⟨r, rfl, hr1, hr2, hb1⟩
  have Hr2 := Lib.hid hr2; clear hr2
  by_cases n1 : r < 0
  · go_wp2_with fail
    go_ret
    exact ⟨rfl, hb1⟩
  · have s1 := (Hr2.out (by omega)).1
    have Hsm := Lib.hid (Hr2.out (by omega)).2
    have Hw1 := Lib.hid (fun x hx => (Hsm.out x hx).2.2.1)
    have HC1 := Lib.hid (fun wx v B hx hB => SimilarS_any B v xs m wx hx hB s1 Hsm.out)
    have HC2 := Lib.hid (fun wx v B hx hB => SimilarI_any B v xs m wx hx hB s1 Hsm.out)
    have hlen : (simL xs m).length ≤ 1048576 := Nat.le_trans (simL_len xs m) s1
    unfold RetN at HC1 HC2
    generalize simL xs m = L at *
    generalize askC xs m = C at *
    generalize hn : L.length = n at *
    have Hn := Lib.hid hn; clear hn
    go_wp2_with fail
    refine (HT1.out _ (H1.out.below hb1) hb1.size s1 Hw1.out).mono ?_; rintro e w3 ⟨A3, c3, rfl, he3, hb3⟩
    have hb03 := hb1.trans (hb3.mono hb1.size)
    have He3 := Lib.hid he3
    clear he3 hb3 hb1
    go_wp2_with fail
    refine (HC1.out w3 _ _ He3.out (Nat.le_refl _)).mono ?_; rintro e w5 ⟨v6, rfl, ho5, hb5⟩
    have hb05 := hb03.trans (hb5.mono hb03.size)
    have R5 := Lib.hid (Rd.of_own ho5)
    obtain ⟨_, A5, c5, rfl, _⟩ := Rd.of_own ho5
    clear ho5 hb5 hb03 He3
    go_wp2_with fail
    refine (HU1.out _ (H1.out.below hb05) hb05.size s1 Hw1.out).mono ?_; rintro e w6 ⟨ys, rfl, hym, hyo, hyw, hb6⟩
    have hb06 := hb05.trans (hb6.mono hb05.size)
    have HM := Lib.hid (fun w9 hb => markE_late (w9 := w9) hym hyo hyw hb s1 Hw1.out)
    have E6 := Lib.hid (show RdE w6 w6.heap.size (.slice (some ⟨w5.heap.size, 0, none⟩) xs.length xs.length) xs from ⟨ys, hym, Rd.of_own hyo, fun y hy => Rd.of_own (hyw y hy)⟩)
    have hz6 := hb6.size
    have B6 := Lib.hid hb6
    clear hym hyo hyw hb6
    go_wp2_with fail
    refine (HC2.out w6 _ _ E6.out (Nat.le_refl _)).mono ?_; rintro e w7 ⟨v9, rfl, ho7, hb7⟩
    have B67 := Lib.hid hb7
    have B57 := Lib.hid (B6.out.trans (hb7.mono hz6))
    have Ho7 := Lib.hid ho7
    obtain ⟨_, A9, c9, rfl, _⟩ := Rd.of_own ho7
    have HE := Lib.hid (eqInt64S_same _ _ _ _ L w7 (by rw [Hn.out]; exact Rd.of_own ho7) (by rw [Hn.out]; exact R5.out.below B57.out) (by rw [Hn.out]; omega))
    clear ho7 hb7 hb06
    go_wp2_with fail
    refine HE.out.mono ?_; rintro e w8 ⟨rfl, n8, rfl⟩
    have B68 := Lib.hid (below_drewN B67.out n8)
    have hb08 := hb05.trans ((B6.out.trans (B68.out.mono hz6)).mono hb05.size)
    have Ho8 := Lib.hid (Ho7.out.drewN n8)
    clear HE B57 B67 Ho7
    go_wp2_with fail
    refine (HT1.out _ (H1.out.below hb08) hb08.size s1 Hw1.out).mono ?_; rintro e w9 ⟨A10, c10, rfl, he9, hb9⟩
    have B69 := Lib.hid (B68.out.trans (hb9.mono B68.out.size))
    have Ho9 := Lib.hid (own_below Ho8.out hb9)
    have HE := Lib.hid (eqEntryS_same _ _ _ _ xs w9 (E6.out.below B69.out) he9 B69.out.size (Nat.le_refl _) s1 Hw1.out)
    clear he9 hb9 B68 Ho8 hb08
    go_wp2_with fail
    refine HE.out.mono ?_; rintro e w10 ⟨rfl, hb10⟩
    have B610 := Lib.hid (B69.out.trans (hb10.mono B69.out.size))
    have Ho10 := Lib.hid (own_below Ho9.out hb10)
    clear HE hb10 B69 Ho9 E6
    go_wp2_with fail
    refine (HM.out w10 B610.out).mono ?_; rintro e w11 ⟨⟨r1, rfl, hr10⟩, hm11⟩
    have B511 := Lib.hid ((B6.out.trans (B610.out.mono hz6)).trans hm11.1)
    have Ho11 := Lib.hid (own_MK Ho10.out hm11 (Nat.le_refl _))
    clear hm11 HM Ho10 B610 B6
    have HE := Lib.hid (eqInt64S_same _ _ _ _ L w11 (by rw [Hn.out]; exact Rd.of_own Ho11.out) (by rw [Hn.out]; exact R5.out.below B511.out) (by rw [Hn.out]; omega))
    have hr11 : ¬ (r1 < 0) := by omega
    go_wp2_with fail
    refine HE.out.mono ?_; rintro e w12 ⟨rfl, n12, rfl⟩
    have B512 := Lib.hid (below_drewN B511.out n12)
    have Ho12 := Lib.hid (Ho11.out.drewN n12)
    clear HE B511 Ho11
    go_wp2_with fail
    refine (markInt64S_any _ _ 1 n _ _ Ho12.out (by omega) (by omega)).mono ?_; rintro e w13 ⟨rfl, hg13, ho13⟩
    have B513 := Lib.hid (B512.out.grown hg13 B512.out.size (fun k hk => Nat.le_trans hz6 ((Ho12.out.lt k hk).1)))
    have Ho13 := Lib.hid ho13
    have hb013 := hb05.trans (B513.out.mono hb05.size)
    clear ho13 hg13 B512 Ho12
    go_wp2_with fail
    refine (heldInt64S_any _ _ 1 n w13 (Rd.of_own Ho13.out) (by omega) (by omega)).mono ?_; rintro e w14 ⟨rfl, rfl⟩
    go_wp2_with fail
    refine (HT1.out _ (H1.out.below hb013) hb013.size s1 Hw1.out).mono ?_; rintro e w15 ⟨A15, c15, rfl, he15, hb15⟩
    have B515 := Lib.hid (B513.out.trans (hb15.mono B513.out.size))
    have Ho15 := Lib.hid (own_below Ho13.out hb15)
    have He15 := Lib.hid he15
    clear he15 hb15 hb013 Ho13 B513
    go_wp2_with fail
    refine (HC2.out w15 _ _ He15.out (Nat.le_refl _)).mono ?_; rintro e w16 ⟨v16, rfl, ho16, hb16⟩
    have B516 := Lib.hid (B515.out.trans (hb16.mono B515.out.size))
    have Ho16 := Lib.hid (own_below Ho15.out hb16)
    have HE := Lib.hid (eqInt64S_same _ _ _ _ L w16 (by rw [Hn.out]; exact Rd.of_own ho16) (by rw [Hn.out]; exact R5.out.below B516.out) (by rw [Hn.out]; omega))
    obtain ⟨_, A16, c16, rfl, _⟩ := Rd.of_own ho16
    clear ho16 hb16 Ho15 B515 He15
    go_wp2_with fail
    refine HE.out.mono ?_; rintro e w17 ⟨rfl, n17, rfl⟩
    have hb017 := hb05.trans ((below_drewN B516.out n17).mono hb05.size)
    have Ho17 := Lib.hid (Ho16.out.drewN n17)
    clear HE B516 Ho16
    go_wp2_with fail
    refine (heldInt64S_any _ _ 1 n _ (Rd.of_own Ho17.out) (by omega) (by omega)).mono ?_; rintro e w18 ⟨rfl, rfl⟩
    go_wp2_with fail
    go_ret
    exact ⟨rfl, hb017⟩
end Go.Proofs.Ytfaoilonkonmkaa
