/- Similar entries, part 6: markEntryS. -/
import Derived.Test.YtfaoilonkonmkaaSi5
namespace Go.Proofs.Ytfaoilonkonmkaa
open Go.RowKit Go.Joins

/-- a row of its own, whatever it holds -/
def OwnX (w : World) (base n : Nat) (v : Value) : Prop := ∃ zs, w.ownsRow base 9 1 v n zs
theorem OwnX.kept {w w' : World} {base n : Nat} {v : Value} {row : Option Nat} (h : OwnX w base n v) (hg : w.grownBy w' row) (hne : v.ownBlock = none ∨ v.ownBlock ≠ row) : OwnX w' base n v := h.imp fun _ h => h.kept hg hne
theorem OwnX.same {w w' : World} {base n n2 : Nat} {v v2 : Value} {xs' : List Value} (h1 : OwnX w base n v) (h2 : OwnX w base n2 v2) (hg : w.grownBy w' v.ownBlock) (h1' : w'.ownsRow base 9 1 v n xs') : OwnX w' base n2 v2 := by
  by_cases hne : v2.ownBlock = none ∨ v2.ownBlock ≠ v.ownBlock
  · exact h2.kept hg hne
  · obtain ⟨z1, h1⟩ := h1
    obtain ⟨z2, h2⟩ := h2
    rcases h2.2 with ⟨rfl, _⟩ | ⟨g2, cap2, cur2, rfl, hb2, hg2, hn2, hc2, hs2, ht2⟩
    · exact absurd (.inl rfl) hne
    rcases h1.2 with ⟨rfl, _⟩ | ⟨g1, cap1, cur1, rfl, hb1, hg1, hn1, hc1, hs1, ht1⟩
    · exact absurd (.inr (by simp [Value.ownBlock])) hne
    have he : g2 = g1 := by
      by_cases hh : g2 = g1
      · exact hh
      · exact absurd (.inr (by simpa [Value.ownBlock] using hh)) hne
    subst he
    rw [hg1] at hg2
    obtain rfl : cur1 = cur2 := by simpa using hg2
    rcases h1'.2 with ⟨h', _⟩ | ⟨g3, cap3, cur3, h', hb3, hg3, hn3, hc3, hs3, ht3⟩
    · cases h'
    simp only [Value.slice.injEq, Option.some.injEq, Addr.mk.injEq, and_true, true_and] at h'
    obtain ⟨rfl, rfl⟩ := h'
    refine ⟨cur3.toList.take (n2 * 1), ⟨?_, .inr ⟨g2, cap2, cur3, rfl, hb2, hg3, hn2, hc2, by omega, rfl⟩⟩⟩
    rw [List.length_take, Array.length_toList]; omega

/-- only the entries' own blocks have changed -/
def MK (B0 hi : Nat) (w wr : World) : Prop := Below B0 w wr ∧ ∀ g, hi ≤ g → g < w.heap.size → wr.heap[g]? = w.heap[g]?
theorem MK.refl (B0 hi : Nat) (w : World) : MK B0 hi w w := ⟨Below.refl _ _, fun _ _ _ => rfl⟩
theorem MK.step {B0 hi : Nat} {w wr wr' : World} {ob : Option Nat} (h : MK B0 hi w wr) (hg : wr.grownBy wr' ob) (ho : ∀ g, ob = some g → B0 ≤ g ∧ g < hi) (hB : B0 ≤ w.heap.size) : MK B0 hi w wr' :=
  ⟨h.1.grown hg (Nat.le_trans hB h.1.size) (fun k hk => (ho k hk).1), fun g h1 h2 => (hg.block g (Nat.lt_of_lt_of_le h2 h.1.size) (fun e => by have := (ho g e.symm).2; omega)).trans (h.2 g h1 h2)⟩
theorem st_cell {w : World} {g n : Nat} {cs : List Value} (h : w.ownsRow g 124 5 (.slice (some ⟨g, 0, none⟩) n n) n cs) (j : Nat) (hj : j < n * 5) : ∃ u, w.cell? ⟨g, j, none⟩ = some u ∧ w.frozen? ⟨g, j, none⟩ = false := by
  obtain ⟨u, hu⟩ : ∃ u, cs[j]? = some u := ⟨_, List.getElem?_eq_getElem (by have := h.1; omega)⟩
  exact ⟨u, (h.cellAt j (by omega)).trans hu, h.frozenAt j⟩
theorem fours (ys : List (Ent × Value)) (j : Nat) (hj : j < ys.length) : (ys.flatMap cellsE)[j * 5 + 4]? = some (ys[j].2) := by
  have := flat_at cellsE 5 (fun _ => rfl) ys j 4 hj (by omega)
  rw [this]; rfl

set_option maxRecDepth 100000 in
set_option maxHeartbeats 3200000 in
theorem markEntryS_any (B0 hi n : Nat) (ys : List (Ent × Value)) (w : World) (k0 : Int) (hn : ys.length = n) (hl : n ≤ 1048576) (h1 : w.ownsRow B0 124 5 (.slice (some ⟨B0, 0, none⟩) n n) n (ys.flatMap cellsE))
    (h2 : ∀ y ∈ ys, OwnX w (B0 + 1) y.1.words.length y.2) (hhi : ∀ y ∈ ys, ∀ g, y.2.ownBlock = some g → g < hi) (hB : B0 < hi) (hsm : ∀ y ∈ ys, y.1.words.length ≤ 1048576) (hk0 : 0 ≤ k0) (hk1 : k0 ≤ 1) :
    Calls Try.prog 52 #[.slice (some ⟨B0, 0, none⟩) n n, .int .i64 k0] w fun e w' => (∃ r : Int, e = .returned (.int .i64 r) ∧ 0 ≤ r) ∧ MK B0 hi w w' := by
  have hBw : B0 < w.heap.size := (h1.lt B0 rfl).2
  have H1 := Lib.hid h1
  have H2 := Lib.hid h2
  have Hhi := Lib.hid hhi
  have Hsm := Lib.hid hsm
  have H4 := Lib.hid (fours ys)
  have Hn := Lib.hid hn
  clear h1 h2 hhi hsm hn
  go_enter Try.func52, Try.ntmps52
  go_wp2_with fail
  go_loopw [1, 5] (fun a i wr => ∃ (k : Nat) (a0 : Int) (cs : List Value), k ≤ n ∧ 0 ≤ a0 ∧ a0 ≤ 1 + k * 1048580 ∧ i = .int .i64 (k : Int) ∧ a = .int .i64 a0 ∧ wr.ownsRow B0 124 5 (.slice (some ⟨B0, 0, none⟩) n n) n cs ∧ (∀ j (hj : j < ys.length), cs[j * 5 + 4]? = some (ys[j].2)) ∧ (∀ y ∈ ys, OwnX wr (B0 + 1) y.1.words.length y.2) ∧ MK B0 hi w wr) (fun _ i _ => n - (intOf i).toNat)
  case atStart => exact ⟨0, k0, _, Nat.zero_le _, hk0, by omega, rfl, rfl, H1.out, H4.out, H2.out, MK.refl _ _ _⟩
  case round =>
    obtain ⟨k, a0, cs, hk, ha0, ha1, rfl, rfl, hown, hcs, hx, hmk⟩ := hrel
    have Hcs := Lib.hid hcs
    have Hx := Lib.hid hx
    have Hmk := Lib.hid hmk
    clear hcs hx hmk
    by_cases hlt : k < n
    · have hlt' : (k : Int) < (n : Int) := by omega
      have hky : k < ys.length := by rw [Hn.out]; exact hlt
      have Hmem := Lib.hid (List.getElem_mem hky)
      have Hk4 := Lib.hid (Hcs.out k hky)
      generalize ys[k] = y at *
      obtain ⟨x, v2⟩ := y
      have hxl := Hsm.out _ Hmem.out
      have hxo := Hx.out _ Hmem.out
      dsimp only at Hk4 hxl hxo
      obtain ⟨A7, c7, rfl⟩ : ∃ A c, v2 = .slice A x.words.length c := by
        obtain ⟨zs, hz⟩ := hxo
        obtain ⟨_, A, c, e, _⟩ := Rd.of_own hz
        exact ⟨A, c, e⟩
      clear hxo hky
      obtain ⟨u0, hc0, hf0⟩ := st_cell hown (k * 5) (by omega)
      obtain ⟨ho1, hg1⟩ := hown.stored (k * 5) (.int .i64 a0)
      have Ho1 := Lib.hid ho1
      have Hg1 := Lib.hid hg1
      clear ho1 hg1 hown
      go_wp2_with fail
      refine (markText_any _ _ (by omega)).mono ?_; rintro e w2 ⟨rfl, hb2⟩
      generalize markT _ = M1 at *
      have ho2 := own_below Ho1.out hb2
      have Hg2 := Lib.hid (grown_trans Hg1.out (grown_of_below hb2 _))
      obtain ⟨u1, hc1, hf1⟩ := st_cell ho2 (k * 5 + 1) (by omega)
      obtain ⟨ho3, hg3⟩ := ho2.stored (k * 5 + 1) (.string M1)
      have Ho3 := Lib.hid ho3
      have Hg3 := Lib.hid (grown_trans Hg2.out hg3)
      clear ho2 ho3 hg3 hb2 hc0 hf0 Hg2 Hg1 Ho1
      go_wp2_with fail
      refine (markText_any _ _ (by omega)).mono ?_; rintro e w4 ⟨rfl, hb4⟩
      generalize markT _ = M2 at *
      have ho4 := own_below Ho3.out hb4
      have Hg4 := Lib.hid (grown_trans Hg3.out (grown_of_below hb4 _))
      obtain ⟨u2, hc2, hf2⟩ := st_cell ho4 (k * 5 + 2) (by omega)
      obtain ⟨u3, hc3, hf3⟩ := st_cell ho4 (k * 5 + 3) (by omega)
      have hc4 : w4.cell? ⟨B0, k * 5 + 4, none⟩ = some (.slice A7 x.words.length c7) := by
        rw [ho4.cellAt (k * 5 + 4) (by omega), List.getElem?_set_ne (by omega), List.getElem?_set_ne (by omega)]
        exact Hk4.out
      obtain ⟨ho5, hg5⟩ := ho4.stored (k * 5 + 2) (.string M2)
      obtain ⟨ho6, hg6⟩ := ho5.stored (k * 5 + 3) (.int .i64 (a0 + 1 + 1 + 1))
      have Ho6 := Lib.hid ho6
      have Hg6 := Lib.hid (grown_trans (grown_trans Hg4.out hg5) hg6)
      clear ho4 ho5 ho6 hg5 hg6 hb4 hc1 hf1 Hg3 Hg4 Ho3
      have Hx6 := Lib.hid (fun y hy => (Hx.out y hy).kept Hg6.out (by
        obtain ⟨zs, hz⟩ := Hx.out y hy
        cases hv : y.2.ownBlock with
        | none => exact .inl rfl
        | some g => have := (hz.lt g hv).1; exact .inr (by simp; omega)))
      have Hm6 := Lib.hid (Hmk.out.step Hg6.out (fun g e => by cases e; exact ⟨Nat.le_refl _, hB⟩) (Nat.le_of_lt hBw))
      obtain ⟨zs6, ho7⟩ := Hx6.out _ Hmem.out
      have HM := Lib.hid (fun q => markStringS_any (B0 + 1) _ q _ zs6 _ ho7)
      have hlt7 := Lib.hid ho7.lt
      clear ho7
      dsimp only at HM
      go_wp2_with fail
      refine (HM.out _ (by omega) (by omega)).mono ?_; rintro e w8 ⟨rfl, hg8, ho8⟩
      have Hx8 := Lib.hid (fun y hy => (Hx6.out _ Hmem.out).same (Hx6.out y hy) hg8 ho8)
      have Ho8 := Lib.hid (Ho6.out.kept hg8 (.inr (by
        intro e
        have := (hlt7.out B0 e.symm).1
        omega)))
      have Hm8 := Lib.hid (Hm6.out.step hg8 (fun g e => ⟨by have := (hlt7.out g e).1; omega, Hhi.out _ Hmem.out g e⟩) (Nat.le_of_lt hBw))
      have Hcs8 := Lib.hid (fun j hj => show ((((cs.set (k * 5) (.int .i64 a0)).set (k * 5 + 1) (.string M1)).set (k * 5 + 2) (.string M2)).set (k * 5 + 3) (.int .i64 (a0 + 1 + 1 + 1)))[j * 5 + 4]? = some ((ys[j]'hj).2) by
        rw [List.getElem?_set_ne (by omega), List.getElem?_set_ne (by omega), List.getElem?_set_ne (by omega), List.getElem?_set_ne (by omega)]
        exact Hcs.out j hj)
      clear hg8 ho8
      go_wp2_with fail
      go_roundw
      case rel => exact ⟨k + 1, _, _, by omega, by omega, by omega, by go_num, rfl, Ho8.out, Hcs8.out, Hx8.out, Hm8.out⟩
      case measure => simp [intOf]; omega
    · have hlt' : (n : Int) ≤ (k : Int) := by omega
      go_wp2_with fail
      go_ret
      exact ⟨⟨_, rfl, ha0⟩, Hmk.out⟩
end Go.Proofs.Ytfaoilonkonmkaa
