/- Loans' texts, part 3: the law FnExactLoansText. -/
import Derived.Test.YtplpeeienpaaeaaDoorLt2
namespace Go.Proofs.YtplpeeienpaaeaaDoor
open Go.RowKit Go.Joins

theorem toLoanS_d (B : Nat) (v : Value) (xs : List Ln) (w : World) (h : RdL w B v xs) (hB : B ≤ w.heap.size) (hl : xs.length ≤ 1048576) :
    Calls Tryd.prog 8 #[v] w fun e w' => ∃ b, e = .returned (.slice (some ⟨b, 0, none⟩) xs.length xs.length) ∧ RdL w' w'.heap.size (.slice (some ⟨b, 0, none⟩) xs.length xs.length) xs ∧ Below w.heap.size w w' := by
  refine (toLoanS_any B v xs w h hB hl).mono ?_
  rintro e w' ⟨rfl, ho, hb⟩
  exact ⟨_, rfl, Rd.of_own ho, hb⟩

set_option maxRecDepth 100000 in
set_option maxHeartbeats 1600000 in
theorem walkFnExactLoansText {W : World} (v1 : Value) (xs : List Ln) (h1 : RdL W W.heap.size v1 xs) (m1 : xs.length ≤ maxLen ∧ ∀ x ∈ xs, lenL x) (ht : Tab W) :
    Calls Tryd.prog 3 #[v1] W fun e W' => e = .returned (.bool true) ∧ Below W.heap.size W W' := by
  have HS := Lib.hid (szLoanS_any W.heap.size v1 xs 1048576 W h1 (Nat.le_refl _) m1.1 m1.2 (by omega) (by omega))
  have HT := Lib.hid (fun wx hx hz hl => toLoanS_d W.heap.size v1 xs wx hx hz hl)
  have HL := Lib.hid h1
  have Ht := Lib.hid ht
  obtain ⟨A1, c1, rfl⟩ := h1.slice
  clear h1 m1 ht
  go_enter Tryd.func3, Tryd.ntmps3
  go_wp2_with fail
  refine HS.out.mono ?_; rintro e w1 ⟨r, rfl, hr1, hr2, hb1⟩
  have Hr2 := Lib.hid hr2; clear hr2
  by_cases n1 : r < 0
  · go_wp2_with fail
    go_ret
    exact ⟨rfl, hb1⟩
  have s1 := (Hr2.out (by omega)).1
  have Hsm := Lib.hid (Hr2.out (by omega)).2
  have hcap : ∀ b A n c, Value.slice (some ⟨b, 0, none⟩) xs.length xs.length = .slice A n c → n ≤ c ∧ c ≤ maxLen := by
    intro b A n c h
    injection h with h0 h1 h2
    subst h1 h2
    exact ⟨Nat.le_refl _, by simp only [maxLen]; omega⟩
  have HCS := Lib.hid (fun (wx : World) (b : Nat) (hx : RdL wx wx.heap.size (.slice (some ⟨b, 0, none⟩) xs.length xs.length) xs) => LoansTextS_any wx.heap.size _ xs wx hx (Nat.le_refl _) s1 Hsm.out)
  have HCI := Lib.hid (fun (wx : World) (b : Nat) (hx : RdL wx wx.heap.size (.slice (some ⟨b, 0, none⟩) xs.length xs.length) xs) (hq : Tab wx) => LoansTextI_any wx.heap.size _ xs wx hx (Nat.le_refl _) s1 Hsm.out (hcap b) hq)
  generalize txL xs = tx at *
  clear Hr2 Hsm hcap HS
  go_wp2_with fail
  refine (HT.out w1 (HL.out.below hb1) hb1.size s1).mono ?_; rintro e w2 ⟨b2, rfl, hr2, hb2⟩
  have h2 := hb1.trans (hb2.mono hb1.size)
  clear hb2
  have HR2 := Lib.hid hr2; clear hr2
  go_wp2_with fail
  refine (HCS.out _ _ HR2.out).mono ?_; rintro e w3 ⟨rfl, hb3⟩
  have h3 := h2.trans (hb3.mono h2.size)
  clear hb3 h2
  go_wp2_with fail
  refine (HT.out w3 (HL.out.below h3) h3.size s1).mono ?_; rintro e w4 ⟨b4, rfl, hr4, hb4⟩
  have h4 := h3.trans (hb4.mono h3.size)
  have HR4 := Lib.hid hr4
  clear hb4 h3 hr4 HR2
  go_wp2_with fail
  refine (HCI.out _ _ HR4.out (Ht.out.below h4)).mono ?_; rintro e w5 ⟨rfl, hb5⟩
  have h5 := h4.trans (hb5.mono h4.size)
  have HR5 := Lib.hid (RdL.next HR4.out hb5)
  clear hb5 h4 HR4
  go_wp2_with fail
  refine (HT.out w5 (HL.out.below h5) h5.size s1).mono ?_; rintro e w6 ⟨b6, rfl, hr6, hb6⟩
  have h6 := h5.trans (hb6.mono h5.size)
  have HE := Lib.hid (eqLoanS_same _ _ _ _ xs w6 (RdL.next HR5.out hb6) hr6 (Nat.le_refl _) (Nat.le_refl _) (by omega))
  clear hb6 h5 hr6 HR5
  go_wp2_with fail
  refine HE.out.mono ?_; rintro e w7 ⟨rfl, hb7⟩
  have h7 := h6.trans (hb7.mono h6.size)
  clear hb7 h6
  go_wp2_with fail
  go_ret
  exact ⟨rfl, h7⟩
end Go.Proofs.YtplpeeienpaaeaaDoor
