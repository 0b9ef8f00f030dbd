/- Entries, part 5: the reading of an argument; the law FnExactSameEntries. -/
import Derived.Test.YtfaoilonkonmkaaEn4
namespace Go.Proofs.Ytfaoilonkonmkaa
open Go.ChangeShapes Go.WideShapes Go.ChangeAt Go.RowKit

section
variable {H : Type} {enc : TypeId × Value → H} {P : Program} {W : World}
theorem rd_strs_cells {T E : Nat} {fuel : Nat} {cs : List Value} {x : DataW H × List MemPlace} (hT : P.underlying T = some (.slice E)) (hE : P.underlying E = some .string) (hC : P.cellsOf E = 1)
    (hf : DataW.trod enc P W 0 (fun _ => true) true fuel T cs = some x) :
    ∃ (v : Value) (zs : List ByteArray), cs = [v] ∧ Rd W W.heap.size v zs.length 1 (Proofs.Ytfaoilonkonmkaa.strs zs) ∧ zs.length ≤ maxLen ∧ ∀ z ∈ zs, z.size ≤ maxLen := by
  rcases open_strings hT hE hC hf with ⟨rfl, hx⟩ | ⟨a, len, cap, zs, rfl, _, hl, hm, hz, hx, hcell, hwz⟩
  · exact ⟨_, [], rfl, ⟨rfl, none, 0, rfl, fun h => by simp at h⟩, by simp [maxLen], by simp⟩
  · have hz' : zs.length = cap := by simpa using hz
    have hlen : (zs.take len).length = len := by rw [List.length_take]; omega
    refine ⟨_, zs.take len, rfl, ?_, by rw [hlen]; omega, fun z hzz => hwz z (List.mem_of_mem_take hzz)⟩
    rw [hlen]
    refine ⟨by simp [Proofs.Ytfaoilonkonmkaa.strs]; omega, some a, cap, rfl, fun hn => ?_⟩
    have h0 := hcell 0 (by omega)
    obtain ⟨b, off, spot⟩ := a
    have hspot : spot = none := by simpa [Addr.add] using World.cell?_spot h0
    subst hspot
    have hc : ∀ j, j < zs.length → W.cell? ⟨b, off + j, none⟩ = some (.string (zs.getD j ByteArray.empty)) := fun j hj => by rw [← Go.WideShapes.add_plain]; exact hcell j hj
    refine ⟨b, off, rfl, World.block_lt_of_cell? W _ (hc 0 (by omega)), fun i u hu => ?_⟩
    have hi : i < len := by
      have := (List.getElem?_eq_some_iff.1 hu).1
      simp [Proofs.Ytfaoilonkonmkaa.strs] at this; omega
    rw [hc i (by omega), ← hu]
    simp [Proofs.Ytfaoilonkonmkaa.strs, hi, List.getD, (show i < zs.length by omega)]
end

set_option maxRecDepth 100000 in
theorem elem_entry {H : Type} {enc : TypeId × Value → H} {W : World} (n : Nat) (cs : List Value) (y : DataW H × List MemPlace) (h : DataW.trod enc Try.prog W 0 (fun _ => true) true n 122 cs = some y) :
    ∃ x : Ent × Value, cs = cellsE x ∧ RdW W W.heap.size x ∧ lenE x.1 := by
  obtain ⟨xs, m, _, _, hl, hlen, hf⟩ := DataW.trod_struct Try.underlying122 h
  have hC : Try.prog.cellsOf 122 = 5 := by kernel_rfl
  rw [hC] at hl
  match cs, hl, xs, hlen with
  | [a0, a1, a2, a3, a4], _, [y0, y1, y2, y3, y4], _ =>
    have c1 : Try.prog.cellsOf 2 = 1 := by kernel_rfl
    have c2 : Try.prog.cellsOf 9 = 1 := by kernel_rfl
    have c3 : Try.prog.cellsOf 120 = 1 := by kernel_rfl
    have h0 := hf 0 _ rfl
    change DataW.trod enc Try.prog W 0 (fun _ => true) true m 2 (([a0, a1, a2, a3, a4].drop 0).take (Try.prog.cellsOf 2)) = some y0 at h0
    rw [c1] at h0
    have h1 := hf 1 _ rfl
    change DataW.trod enc Try.prog W 0 (fun _ => true) true m 9 (([a0, a1, a2, a3, a4].drop 1).take (Try.prog.cellsOf 9)) = some y1 at h1
    rw [c2] at h1
    have h2 := hf 2 _ rfl
    change DataW.trod enc Try.prog W 0 (fun _ => true) true m 9 (([a0, a1, a2, a3, a4].drop 2).take (Try.prog.cellsOf 9)) = some y2 at h2
    rw [c2] at h2
    have h3 := hf 3 _ rfl
    change DataW.trod enc Try.prog W 0 (fun _ => true) true m 2 (([a0, a1, a2, a3, a4].drop 3).take (Try.prog.cellsOf 2)) = some y3 at h3
    rw [c1] at h3
    have h4 := hf 4 _ rfl
    change DataW.trod enc Try.prog W 0 (fun _ => true) true m 120 (([a0, a1, a2, a3, a4].drop 4).take (Try.prog.cellsOf 120)) = some y4 at h4
    rw [c3] at h4
    obtain ⟨num, q0, _, _⟩ := DataW.trod_int Try.underlying2 h0
    obtain ⟨name, q1, _, w1⟩ := DataW.trod_string Try.underlying9 h1
    obtain ⟨maker, q2, _, w2⟩ := DataW.trod_string Try.underlying9 h2
    obtain ⟨year, q3, _, _⟩ := DataW.trod_int Try.underlying2 h3
    obtain ⟨v, words, q4, hr, hl4, hw4⟩ := rd_strs_cells Try.underlying120 Try.underlying9 c2 h4
    simp at q0 q1 q2 q3 q4
    subst q0 q1 q2 q3 q4
    exact ⟨(⟨num, name, maker, year, words⟩, a4), rfl, hr, w1, w2, hl4, hw4⟩

set_option maxRecDepth 100000 in
theorem rd_entries {H : Type} {enc : TypeId × Value → H} {W : World} {base : Nat} {r : Reach} {v : Value} {d : DataW H} {p : List MemPlace} (ok : Value.okWide Try.prog W r base 46 v) (h : DataW.Trod enc Try.prog W 0 (fun _ => true) true 46 v d p) :
    ∃ xs : List Ent, RdE W W.heap.size v xs ∧ (xs.length ≤ maxLen ∧ ∀ x ∈ xs, lenE x) := by
  obtain ⟨ys, h1, h2, h3⟩ := rd_rows (P := Try.prog) cellsE (fun x => RdW W W.heap.size x ∧ lenE x.1) (sz := 5) Try.underlying46 (by kernel_rfl) (by omega) (fun _ => rfl) elem_entry ok h
  refine ⟨ys.map (·.1), ⟨ys, rfl, by simpa using h1, fun y hy => (h3 y hy).1⟩, by simpa using h2, fun x hx => ?_⟩
  obtain ⟨y, hy, rfl⟩ := List.mem_map.1 hx
  exact (h3 y hy).2

open Go.Joins
set_option maxRecDepth 100000 in
set_option maxHeartbeats 3200000 in
theorem walkFnExactSameEntries {W : World} (v1 : Value) (xs : List Ent) (h1 : RdE W W.heap.size v1 xs) (m1 : xs.length ≤ maxLen ∧ ∀ x ∈ xs, lenE x) (v2 : Value) (ys : List Ent) (h2 : RdE W W.heap.size v2 ys) (m2 : ys.length ≤ maxLen ∧ ∀ x ∈ ys, lenE x) :
    Calls Try.prog 7 #[v1, v2] W fun e w' => e = .returned (.bool true) ∧ Below W.heap.size W w' := by
  have HS1 := Lib.hid (szEntryS_any W.heap.size v1 xs 1048576 W h1 (Nat.le_refl _) m1.1 m1.2 (by omega) (by omega))
  have HS2 := Lib.hid (fun lf wx hx hz q0 q1 => szEntryS_any W.heap.size v2 ys lf wx hx hz m2.1 m2.2 q0 q1)
  have HT1 := Lib.hid (fun wx hx hz hl hw => toEntryS_c W.heap.size v1 xs wx hx hz hl hw)
  have HT2 := Lib.hid (fun wx hx hz hl hw => toEntryS_c W.heap.size v2 ys wx hx hz hl hw)
  have H1 := Lib.hid h1
  have H2 := Lib.hid h2
  obtain ⟨A1, c1, rfl⟩ := h1.slice
  obtain ⟨A2, c2, rfl⟩ := h2.slice
  clear h1 h2 m1 m2
  go_enter Try.func7, Try.ntmps7
  go_wp2_with fail
  refine HS1.out.mono ?_; rintro e w1 ⟨r, rfl, hr1, hr2, hb1⟩
  have Hr2 := Lib.hid hr2; clear hr2
  by_cases n1 : r < 0
  · go_wp2_with fail
    go_ret
    exact ⟨rfl, hb1⟩
  · go_wp2_with fail
    refine (HS2.out _ _ (H2.out.below hb1) hb1.size (by omega) hr1).mono ?_; rintro e w2 ⟨r', rfl, hr1', hr2', hb2⟩
    have hb02 := hb1.trans (hb2.mono hb1.size)
    have Hr2' := Lib.hid hr2'; clear hr2' hb1 hb2
    by_cases n2 : r' < 0
    · go_wp2_with fail
      go_ret
      exact ⟨rfl, hb02⟩
    · have s1 := (Hr2.out (by omega)).1
      have s2 := (Hr2'.out (by omega)).1
      have Hw1 := Lib.hid (fun x hx => ((Hr2.out (by omega)).2 x hx).2.2.1)
      have Hw2 := Lib.hid (fun x hx => ((Hr2'.out (by omega)).2 x hx).2.2.1)
      go_wp2_with fail
      refine (HT1.out _ (H1.out.below hb02) hb02.size s1 Hw1.out).mono ?_; rintro e w3 ⟨A3, c3, rfl, he3, hb3⟩
      have hb03 := hb02.trans (hb3.mono hb02.size)
      have He3 := Lib.hid he3; clear he3 hb3 hb02
      go_wp2_with fail
      refine (HT2.out _ (H2.out.below hb03) hb03.size s2 Hw2.out).mono ?_; rintro e w4 ⟨A4, c4, rfl, he4, hb4⟩
      have hb04 := hb03.trans (hb4.mono hb03.size)
      have HC := Lib.hid (SameS_any _ _ _ xs ys w4 (He3.out.next hb4) he4 s1 Hw1.out)
      clear he4 hb4 hb03 He3
      go_wp2_with fail
      refine HC.out.mono ?_; rintro e w5 ⟨rfl, n, rfl⟩
      have hb05 := below_drewN hb04 n
      clear HC hb04
      go_wp2_with fail
      refine (HT1.out _ (H1.out.below hb05) hb05.size s1 Hw1.out).mono ?_; rintro e w6 ⟨A6, c6, rfl, he6, hb6⟩
      have hb06 := hb05.trans (hb6.mono hb05.size)
      have He6 := Lib.hid he6; clear he6 hb6 hb05
      go_wp2_with fail
      refine (HT2.out _ (H2.out.below hb06) hb06.size s2 Hw2.out).mono ?_; rintro e w7 ⟨A7, c7, rfl, he7, hb7⟩
      have hb07 := hb06.trans (hb7.mono hb06.size)
      have He7 := Lib.hid (He6.out.next hb7)
      have He8 := Lib.hid he7
      have HC := Lib.hid (SameI_any _ _ _ xs ys w7 He7.out he7 (Nat.le_refl _) s1 Hw1.out)
      clear he7 hb7 hb06 He6
      go_wp2_with fail
      refine HC.out.mono ?_; rintro e w8 ⟨rfl, hb8⟩
      have hb08 := hb07.trans (hb8.mono hb07.size)
      have He9 := Lib.hid (He7.out.next hb8)
      have He10 := Lib.hid (He8.out.next hb8)
      clear HC hb8 hb07 He7 He8
      generalize decide (xs = ys) = q at *
      go_wp2_with fail
      refine (HT1.out _ (H1.out.below hb08) hb08.size s1 Hw1.out).mono ?_; rintro e w9 ⟨A9, c9, rfl, he9, hb9⟩
      have hb09 := hb08.trans (hb9.mono hb08.size)
      have HC := Lib.hid (eqEntryS_same _ _ _ _ xs w9 (He9.out.next hb9) he9 (Nat.le_refl _) (Nat.le_refl _) s1 Hw1.out)
      have He11 := Lib.hid (He10.out.next hb9)
      clear he9 hb9 hb08 He9 He10
      go_wp2_with fail
      refine HC.out.mono ?_; rintro e w10 ⟨rfl, hb10⟩
      have hb010 := hb09.trans (hb10.mono hb09.size)
      have He12 := Lib.hid (He11.out.next hb10)
      clear HC hb10 hb09 He11
      go_wp2_with fail
      refine (HT2.out _ (H2.out.below hb010) hb010.size s2 Hw2.out).mono ?_; rintro e w11 ⟨A11, c11, rfl, he11, hb11⟩
      have hb011 := hb010.trans (hb11.mono hb010.size)
      have HC := Lib.hid (eqEntryS_same _ _ _ _ ys w11 (He12.out.next hb11) he11 (Nat.le_refl _) (Nat.le_refl _) s2 Hw2.out)
      clear he11 hb11 hb010 He12
      go_wp2_with fail
      refine HC.out.mono ?_; rintro e w12 ⟨rfl, hb12⟩
      have hb012 := hb011.trans (hb12.mono hb011.size)
      go_wp2_with fail
      go_ret
      exact ⟨rfl, hb012⟩
end Go.Proofs.Ytfaoilonkonmkaa
