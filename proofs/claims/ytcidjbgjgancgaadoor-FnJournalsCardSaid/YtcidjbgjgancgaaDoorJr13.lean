/- Journals, part 13: the notes that are drawn. -/
import Derived.Test.YtcidjbgjgancgaaDoorJr12
import Derived.Test.YtcidjbgjgancgaaDoorSrc
import Derived.Test.YtcidjbgjgancgaaDoorLong
namespace Go.Proofs.YtcidjbgjgancgaaDoor
open Go.RowKit Go.Joins

set_option maxHeartbeats 400000 in
theorem text_any (B g k b m : Nat) (l : List ByteArray) (bs : List UInt8) (w : World) (h : SrcAt w B g k bs) (hk : k < 4611686018427387800) (hm : l.length = m) (hm2 : 2 ≤ m) (hm3 : m ≤ 200) (hb : b ≠ g) (hbl : b < w.heap.size)
    (hc : ∀ i (hi : i < l.length), w.cell? ⟨b, i, none⟩ = some (.string l[i])) :
    Calls Tryd.prog 57 #[.pointer (some ⟨g, 0, none⟩), .slice (some ⟨b, 0, none⟩) m m] w fun e w' => ∃ z, z ∈ l ∧ e = .returned (.string z) ∧ SrcAt w' B g (k + 2) bs ∧ w.grownBy w' (some g) := by
  have H := Lib.hid h; clear h
  have Hc := Lib.hid hc; clear hc
  have hm4 : (m : Int) ≤ 200 := by omega
  go_enter Tryd.func57, Tryd.ntmps57
  go_wp2_with fail
  refine (pick_any B g k bs m _ H.out (by omega)).mono ?_; rintro e w1 ⟨x, rfl, ⟨hx0, hx1, _⟩, hs1, hg1⟩
  have Hs1 := Lib.hid hs1; clear hs1
  obtain ⟨i, rfl⟩ : ∃ i : Nat, x = i := ⟨x.toNat, by omega⟩
  have hx2 := hx1 (by omega)
  have hi : i < l.length := by omega
  have hcell := (World.cell?_of_block (a := ⟨b, i, none⟩) (hg1.block b hbl (fun e => hb (by injection e)))).trans (Hc.out i hi)
  have hmem := Lib.hid (List.getElem_mem hi)
  generalize l[i] = z at *
  clear hx1
  go_wp2_with fail
  go_ret
  exact ⟨z, hmem.out, rfl, Hs1.out, hg1⟩

theorem grown_new {a b c : World} {g r : Option Nat} (h : a.grownBy b g) (k : b.grownBy c r) (hr : ∀ x, r = some x → a.heap.size ≤ x) : a.grownBy c g :=
  ⟨k.os.trans h.os, k.tape.trans h.tape, k.output.trans h.output, Nat.le_trans h.size k.size, fun i hi hne => (k.block i (Nat.lt_of_lt_of_le hi h.size) (fun e => by have := hr i e.symm; omega)).trans (h.block i hi hne)⟩
def drawL : List ByteArray := [⟨#[97, 100, 100]⟩, ⟨#[115, 117, 98]⟩, ⟨#[114, 105, 103, 104, 116]⟩, ⟨#[108, 101, 102, 116]⟩, ⟨#[97, 100, 100]⟩, ⟨#[115, 117, 98]⟩, ⟨#[99, 108, 101, 97, 114]⟩, ⟨#[122, 101, 114, 111]⟩, ⟨#[]⟩, ⟨#[118, 105, 115, 105, 116, 111, 114, 32, 55]⟩, ⟨#[115, 101, 116, 32, 49, 50]⟩, ⟨#[97, 100, 100, 32, 97, 100, 100]⟩, ⟨#[32, 120]⟩]
theorem drawL_ok : okAll drawL = true := by decide

set_option maxRecDepth 100000 in
set_option maxHeartbeats 1000000 in
theorem l26Notes_any (B g k : Nat) (bs : List UInt8) (w : World) (h : SrcAt w B g k bs) (hk : k < 1000) :
    Calls Tryd.prog 44 #[.pointer (some ⟨g, 0, none⟩), .int .i64 9] w fun e w' => ∃ v zs, e = .returned v ∧ okAll zs = true ∧ zs.length ≤ 9 ∧ w'.ownsRow w.heap.size 9 1 v zs.length (strs zs) ∧ w.grownBy w' (some g) := by
  have hlt := h.lt
  have H := Lib.hid h; clear h
  go_enter Tryd.func44, Tryd.ntmps44
  go_wp2_with fail
  have hba := (Below.refl w.heap.size w).alloc (Nat.le_refl _) (.cells #[] 9)
  refine (pick_any B g k bs 10 _ (H.out.below hba) (by omega)).mono ?_; rintro e w1 ⟨x, rfl, ⟨hx0, hx1, _⟩, hs1, hg1⟩
  obtain ⟨m0, rfl⟩ : ∃ i : Nat, x = i := ⟨x.toNat, by omega⟩
  have hx2 := hx1 (by omega)
  have ho1 := (World.ownsRow_made (base := w.heap.size) (e := 9) (size := 1) w #[] 0 (Nat.le_refl _) (by simp [maxLen]) rfl).kept hg1 (.inr (by simp [Value.ownBlock]; omega))
  have hgg := grown_from_alloc hg1
  have Hs1 := Lib.hid hs1; clear hs1
  have Ho1 := Lib.hid ho1; clear ho1
  clear hx1 hba hg1
  go_wp2_with fail
  go_loopw [5, 6] (fun v i wr => ∃ (m : Nat) (zs : List ByteArray), i = .int .i64 m ∧ wr.ownsRow w.heap.size 9 1 v zs.length (strs zs) ∧ okAll zs = true ∧ zs.length + m ≤ 9 ∧ SrcAt wr B g (k + 2 + 2 * zs.length) bs ∧ w.grownBy wr (some g)) (fun _ i _ => (intOf i).toNat)
  case atStart => exact ⟨m0, [], rfl, Ho1.out, rfl, by simp; omega, Hs1.out, hgg⟩
  case round =>
    obtain ⟨m, zs, rfl, hown, hall, hlen, hs, hgr⟩ := hrel
    have Hs := Lib.hid hs; clear hs
    have Hall := Lib.hid hall; clear hall
    by_cases hm : 0 < m
    · have hbk := (Below.refl wr.heap.size wr).alloc (Nat.le_refl _) (.cells (strs drawL).toArray 9)
      have HT := Lib.hid (fun v hv hc hb => text_any B g (k + 2 + 2 * zs.length) wr.heap.size 13 drawL bs v hv (by omega) rfl (by omega) (by omega) (by have := Hs.out.lt; omega) hb hc)
      have hnc := Lib.hid (show ∀ i (hi : i < drawL.length), (wr.alloc (.cells (strs drawL).toArray 9)).cell? ⟨wr.heap.size, i, none⟩ = some (.string drawL[i]) from fun i hi => by
        have := new_cells wr (strs drawL).toArray 9 i (.string drawL[i]) (by simp [strs, hi])
        rwa [show (⟨wr.heap.size, 0, none⟩ : Addr).add i = ⟨wr.heap.size, i, none⟩ by unfold Addr.add; split <;> simp_all] at this)
      have Hbk := Lib.hid hbk
      have Hown := Lib.hid (own_below hown hbk)
      go_wp2_with fail
      refine (HT.out (wr.alloc (.cells (strs drawL).toArray 9)) (Hs.out.below Hbk.out) hnc.out (by simp)).mono ?_; rintro e w5 ⟨z, hz, rfl, hs5, hg5⟩
      have Hz := Lib.hid hz; clear hz
      have hown5 := Hown.out.kept hg5 (by
        rcases hv : u5.ownBlock with _ | x
        · exact .inl rfl
        · refine .inr (fun h => ?_)
          injection h with h
          have := (hown.lt x hv).1
          omega)
      have hgr5 := grown_trans hgr (grown_from_alloc hg5)
      have hsz5 := hgr5.size
      have Hs5 := Lib.hid hs5; clear hs5
      clear hg5 hown HT hnc Hbk Hown Hs hbk
      go_wp2_with (at_builtin; refine wpList_apd 27 9 _ 1 16 Tryd.underlying27 infoSL rfl (by omega) _ _ rfl rfl w.heap.size u5 zs.length _ rfl hown5 #[.string z] 1 1 rfl rfl (by simp [Value.oneCell']) (by simp [maxLen]; omega) (by omega) hsz5 ?_; intro v' w6 hown6 hg6)
      have Hown6 := Lib.hid (show w6.ownsRow w.heap.size 9 1 v' (zs ++ [z]).length (strs (zs ++ [z])) by simpa [strs] using hown6)
      have Hs6 := Lib.hid (Hs5.out.grown hg6 (fun x hx => by have := (hown5.lt x hx).1; omega))
      have Hg6 := Lib.hid (grown_new hgr5 hg6 (fun x hx => (hown5.lt x hx).1))
      clear hown6 hg6
      go_wp2_with fail
      go_roundw
      case rel =>
        refine ⟨m - 1, zs ++ [z], ?_, Hown6.out, ?_, by simp; omega, Hs6.out.more (by simp; omega), Hg6.out⟩
        · congr 1; omega
        · have h1 := Hall.out
          have h2 := List.all_eq_true.1 drawL_ok z Hz.out
          unfold okAll at *
          rw [List.all_append, h1]
          simpa using h2
      case measure => simp [intOf]; omega
    · have hm' : (m : Int) ≤ 0 := by omega
      have Hown := Lib.hid hown; clear hown
      go_wp2_with fail
      go_ret
      exact ⟨_, zs, rfl, Hall.out, by omega, Hown.out, hgr⟩

set_option maxHeartbeats 400000 in
theorem A2Notes_any (B : Nat) (cv : Value) (bs : List UInt8) (w : World) (h : Rd w B cv bs.length 1 (bs.map byV)) (hB : B ≤ w.heap.size) :
    Calls Tryd.prog 28 #[cv] w fun e w' => ∃ v zs, e = .returned v ∧ okAll zs = true ∧ zs.length ≤ 9 ∧ w'.ownsRow w.heap.size 9 1 v zs.length (strs zs) ∧ Below w.heap.size w w' := by
  have H := Lib.hid h; clear h
  go_enter Tryd.func28, Tryd.ntmps28
  go_wp2_with fail
  refine (l00From_any B cv bs _ H.out hB).mono ?_; rintro e w1 ⟨rfl, hs1, hb1, hz1⟩
  have Hs1 := Lib.hid hs1; clear hs1
  go_wp2_with fail
  refine (l26Notes_any B w.heap.size 0 bs _ Hs1.out (by omega)).mono ?_; rintro e w2 ⟨v, zs, rfl, hall, hlen, hown, hg⟩
  have Hall := Lib.hid hall; clear hall
  have Hown := Lib.hid (ownsRow_le hown (base' := w.heap.size) (by omega)); clear hown
  have hb2 := hb1.trans (below_of_grown hg hb1.size (fun x hx => by injection hx with hx; omega))
  go_wp2_with fail
  go_ret
  exact ⟨v, zs, rfl, Hall.out, hlen, Hown.out, hb2⟩
end Go.Proofs.YtcidjbgjgancgaaDoor
