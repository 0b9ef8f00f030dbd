/- Entries' texts, part 3: the law FnExactEntriesText. -/
import Derived.Test.YtplpeeienpaaeaaDoorEt2
namespace Go.Proofs.YtplpeeienpaaeaaDoor
open Go.RowKit Go.Joins

theorem toEntryS_d (B : Nat) (v : Value) (xs : List Ent) (w : World) (h : RdE w B v xs) (hB : B ≤ w.heap.size) (hl : xs.length ≤ 1048576) (hws : ∀ x ∈ xs, x.words.length ≤ 1048576) :
    Calls Tryd.prog 13 #[v] w fun e w' => ∃ A c, e = .returned (.slice A xs.length c) ∧ RdE w' w'.heap.size (.slice A xs.length c) xs ∧ Below w.heap.size w w' := by
  refine (toEntryS_any B v xs w h hB hl hws).mono ?_
  rintro e w' ⟨ys, rfl, hm, ho, hq, hb⟩
  exact ⟨_, _, rfl, ⟨ys, hm, Rd.of_own ho, fun y hy => Rd.of_own (hq y hy)⟩, hb⟩

set_option maxRecDepth 100000 in
set_option maxHeartbeats 1600000 in
theorem walkFnExactEntriesText {W : World} (v1 : Value) (xs : List Ent) (h1 : RdE W W.heap.size v1 xs) (m1 : xs.length ≤ maxLen ∧ ∀ x ∈ xs, lenE x) (ht : Tab W) :
    Calls Tryd.prog 4 #[v1] W fun e W' => e = .returned (.bool true) ∧ Below W.heap.size W W' := by
  have HS := Lib.hid (szEntryS_any W.heap.size v1 xs 1048576 W h1 (Nat.le_refl _) m1.1 m1.2 (by omega) (by omega))
  have HT := Lib.hid (fun wx hx hz hl hw => toEntryS_d W.heap.size v1 xs wx hx hz hl hw)
  have HL := Lib.hid h1
  have Ht := Lib.hid ht
  obtain ⟨A1, c1, rfl⟩ := h1.slice
  clear h1 m1 ht
  go_enter Tryd.func4, Tryd.ntmps4
  go_wp2_with fail
  refine HS.out.mono ?_; rintro e w1 ⟨r, rfl, hr1, hr2, hb1⟩
  have Hr2 := Lib.hid hr2; clear hr2
  by_cases n1 : r < 0
  · go_wp2_with fail
    go_ret
    exact ⟨rfl, hb1⟩
  have s1 := (Hr2.out (by omega)).1
  have Hsm := Lib.hid (Hr2.out (by omega)).2
  have Hws := Lib.hid (show ∀ x ∈ xs, x.words.length ≤ 1048576 from fun x hx => (Hsm.out x hx).2.2.1)
  have HCS := Lib.hid (fun (wx : World) (A : Option Addr) (c : Nat) (hx : RdE wx wx.heap.size (.slice A xs.length c) xs) => EntriesTextS_any wx.heap.size _ xs wx hx (Nat.le_refl _) s1 Hsm.out)
  have HCI := Lib.hid (fun (wx : World) (A : Option Addr) (c : Nat) (hx : RdE wx wx.heap.size (.slice A xs.length c) xs) (hq : Tab wx) => EntriesTextI_any wx.heap.size _ xs wx hx (Nat.le_refl _) s1 Hsm.out hq)
  generalize txE xs = tx at *
  clear Hr2 Hsm HS
  go_wp2_with fail
  refine (HT.out w1 (HL.out.below hb1) hb1.size s1 Hws.out).mono ?_; rintro e w2 ⟨A2, c2, rfl, hr2, hb2⟩
  have h2 := hb1.trans (hb2.mono hb1.size)
  clear hb2
  have HR2 := Lib.hid hr2; clear hr2
  go_wp2_with fail
  refine (HCS.out _ _ _ HR2.out).mono ?_; rintro e w3 ⟨rfl, hb3⟩
  have h3 := h2.trans (hb3.mono h2.size)
  clear hb3 h2
  go_wp2_with fail
  refine (HT.out w3 (HL.out.below h3) h3.size s1 Hws.out).mono ?_; rintro e w4 ⟨A4, c4, rfl, hr4, hb4⟩
  have h4 := h3.trans (hb4.mono h3.size)
  have HR4 := Lib.hid hr4
  clear hb4 h3 hr4 HR2
  go_wp2_with fail
  refine (HCI.out _ _ _ HR4.out (Ht.out.below h4)).mono ?_; rintro e w5 ⟨rfl, hb5⟩
  have h5 := h4.trans (hb5.mono h4.size)
  have HR5 := Lib.hid (RdE.next HR4.out hb5)
  clear hb5 h4 HR4
  go_wp2_with fail
  refine (HT.out w5 (HL.out.below h5) h5.size s1 Hws.out).mono ?_; rintro e w6 ⟨A6, c6, rfl, hr6, hb6⟩
  have h6 := h5.trans (hb6.mono h5.size)
  have HE := Lib.hid (eqEntryS_same _ _ _ _ xs w6 (RdE.next HR5.out hb6) hr6 (Nat.le_refl _) (Nat.le_refl _) s1 Hws.out)
  clear hb6 h5 hr6 HR5
  go_wp2_with fail
  refine HE.out.mono ?_; rintro e w7 ⟨rfl, hb7⟩
  have h7 := h6.trans (hb7.mono h6.size)
  clear hb7 h6
  go_wp2_with fail
  go_ret
  exact ⟨rfl, h7⟩
end Go.Proofs.YtplpeeienpaaeaaDoor
