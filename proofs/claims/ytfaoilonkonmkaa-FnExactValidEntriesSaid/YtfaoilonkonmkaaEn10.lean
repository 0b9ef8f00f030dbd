/- Entries, part 10: the law FnExactValidEntries. -/
import Derived.Test.YtfaoilonkonmkaaEn9
namespace Go.Proofs.Ytfaoilonkonmkaa
open Go.RowKit Go.Joins

set_option maxRecDepth 100000 in
set_option maxHeartbeats 3200000 in
theorem walkFnExactValidEntries {W : World} (v1 : Value) (xs : List Ent) (h1 : RdE W W.heap.size v1 xs) (m1 : xs.length ≤ maxLen ∧ ∀ x ∈ xs, lenE x) :
    Calls Try.prog 8 #[v1] W fun e w' => e = .returned (.bool true) ∧ Below W.heap.size W w' := by
  have HS1 := Lib.hid (szEntryS_any W.heap.size v1 xs 1048576 W h1 (Nat.le_refl _) m1.1 m1.2 (by omega) (by omega))
  have HT1 := Lib.hid (fun wx hx hz hl hw => toEntryS_c W.heap.size v1 xs wx hx hz hl hw)
  have H1 := Lib.hid h1
  obtain ⟨A1, c1, rfl⟩ := h1.slice
  clear h1 m1
  go_enter Try.func8, Try.ntmps8
  go_wp2_with fail
  refine HS1.out.mono ?_; rintro e w1 ⟨r, rfl, hr1, hr2, hb1⟩
  have Hr2 := Lib.hid hr2; clear hr2
  by_cases n1 : r < 0
  · go_wp2_with fail
    go_ret
    exact ⟨rfl, hb1⟩
  · have s1 := (Hr2.out (by omega)).1
    have Hsm := Lib.hid (Hr2.out (by omega)).2
    have Hw1 := Lib.hid (fun x hx => (Hsm.out x hx).2.2.1)
    go_wp2_with fail
    refine (HT1.out _ (H1.out.below hb1) hb1.size s1 Hw1.out).mono ?_; rintro e w3 ⟨A3, c3, rfl, he3, hb3⟩
    have hb03 := hb1.trans (hb3.mono hb1.size)
    have HC := Lib.hid (ValidS_any _ _ xs w3 he3 s1 Hsm.out)
    clear he3 hb3 hb1
    go_wp2_with fail
    refine HC.out.mono ?_; rintro e w5 ⟨rfl, n, rfl⟩
    have hb05 := below_drewN hb03 n
    clear HC hb03
    go_wp2_with fail
    refine (HT1.out _ (H1.out.below hb05) hb05.size s1 Hw1.out).mono ?_; rintro e w6 ⟨A6, c6, rfl, he6, hb6⟩
    have hb06 := hb05.trans (hb6.mono hb05.size)
    have HC := Lib.hid (ValidI_any _ _ xs w6 he6 (Nat.le_refl _) s1 Hsm.out)
    have He6 := Lib.hid he6; clear he6 hb6 hb05
    go_wp2_with fail
    refine HC.out.mono ?_; rintro e w8 ⟨rfl, hb8⟩
    have hb08 := hb06.trans (hb8.mono hb06.size)
    have He9 := Lib.hid (He6.out.next hb8)
    clear HC hb8 hb06 He6
    generalize entsOk xs = q at *
    go_wp2_with fail
    refine (HT1.out _ (H1.out.below hb08) hb08.size s1 Hw1.out).mono ?_; rintro e w9 ⟨A9, c9, rfl, he9, hb9⟩
    have hb09 := hb08.trans (hb9.mono hb08.size)
    have HC := Lib.hid (eqEntryS_same _ _ _ _ xs w9 (He9.out.next hb9) he9 (Nat.le_refl _) (Nat.le_refl _) s1 Hw1.out)
    clear he9 hb9 hb08 He9
    go_wp2_with fail
    refine HC.out.mono ?_; rintro e w10 ⟨rfl, hb10⟩
    have hb010 := hb09.trans (hb10.mono hb09.size)
    go_wp2_with fail
    go_ret
    exact ⟨rfl, hb010⟩
end Go.Proofs.Ytfaoilonkonmkaa
