/- Loans, part 3: lists of loans copied and compared. -/
import Derived.Test.YtplpeeienpaaeaaDoorLo2
namespace Go.Proofs.YtplpeeienpaaeaaDoor
open Go.RowKit Go.Joins

theorem set4 (l r : List Value) (n : Nat) (hn : l.length = n) (hr : 4 ≤ r.length) (a b c d : Value) :
    ((((l ++ r).set n a).set (n + 1) b).set (n + 2) c).set (n + 3) d = (l ++ [a, b, c, d]) ++ r.drop 4 := by
  subst hn
  match r, hr with
  | x0 :: x1 :: x2 :: x3 :: r, _ =>
    rw [List.set_append_right _ _ (Nat.le_refl _), List.set_append_right _ _ (by omega), List.set_append_right _ _ (by omega), List.set_append_right _ _ (by omega)]
    simp

set_option maxRecDepth 100000 in
set_option maxHeartbeats 1600000 in
theorem toLoanS_any (B : Nat) (v : Value) (xs : List Ln) (w : World) (h : RdL w B v xs) (hB : B ≤ w.heap.size) (hl : xs.length ≤ 1048576) :
    Calls Tryd.prog 8 #[v] w fun e w' => e = .returned (.slice (some ⟨w.heap.size, 0, none⟩) xs.length xs.length) ∧ w'.ownsRow w.heap.size 52 4 (.slice (some ⟨w.heap.size, 0, none⟩) xs.length xs.length) xs.length (xs.flatMap cellsL) ∧ Below w.heap.size w w' := by
  have H := Lib.hid h
  obtain ⟨A, c, rfl⟩ := h.slice
  obtain ⟨i, hi, hz, h2, h3⟩ := info_parts infoL
  obtain ⟨w1, hr, hown, hg⟩ := run_makeSlice_full (P := Tryd.prog) (w := w) w.heap.size 25 52 i _ 4 Tryd.underlying25 hi hz h2 .i64 .i64 xs.length (by omega) (by rw [h3]; omega) (by simp [maxLen]; omega) (Nat.le_refl _)
  have hb1 := below_of_grown hg (Nat.le_refl _) (fun x hx => by cases hx)
  generalize hxs : (madeCells (Value.cells (.agg #[.string ⟨#[]⟩, .string ⟨#[]⟩, .int .i64 0, .int .i64 0])) (xs.length * 4)).toList = zs at *
  have hxl : zs.length = xs.length * 4 := by simpa using hown.1
  have Hown := Lib.hid hown
  have Hb1 := Lib.hid hb1
  have Hxl := Lib.hid hxl
  clear hi hz h2 h3 hxs hown hb1 hg hxl h
  go_enter Tryd.func8, Tryd.ntmps8
  go_wp2_with fail
  clear hr
  go_loopw [4] (fun i wr => ∃ k : Nat, k ≤ xs.length ∧ i = .int .i64 k ∧ wr.ownsRow w.heap.size 52 4 (.slice (some ⟨w.heap.size, 0, none⟩) xs.length xs.length) xs.length ((xs.take k).flatMap cellsL ++ zs.drop (k * 4)) ∧ Below w.heap.size w wr) (fun i _ => xs.length - (intOf i).toNat)
  case atStart => exact ⟨0, Nat.zero_le _, rfl, by simpa using Hown.out, Hb1.out⟩
  case round =>
    obtain ⟨k, hk, rfl, hown, hbl⟩ := hrel
    by_cases hlt : k < xs.length
    · obtain ⟨b1, o1, hA, hE⟩ := (H.out.below (hbl.mono hB)).at k hlt
      subst hA
      have hlt' : (k : Int) < (xs.length : Int) := by omega
      have HX := Lib.hid (show (xs.take (k + 1)).flatMap cellsL = (xs.take k).flatMap cellsL ++ cellsL xs[k] by rw [List.take_succ_eq_append_getElem hlt, List.flatMap_append]; simp)
      generalize xs[k] = x at *
      have HT := Lib.hid (fun wx => toLoan_any x wx)
      obtain ⟨a, b, f, t⟩ := x
      obtain ⟨hbB, e0, e1, e2, e3⟩ := hE
      dsimp only at e0 e1 e2 e3 HT
      have hzb : b1 < wr.heap.size := World.block_lt_of_cell? wr _ e0
      have Hown := Lib.hid hown; clear hown
      go_wp2_with fail
      refine (HT.out _).mono ?_; rintro e w3 ⟨rfl, hb3⟩
      have hown := own_below Hown.out hb3
      have hbl3 := hbl.trans (hb3.mono hbl.size)
      have hset : (((((xs.take k).flatMap cellsL ++ zs.drop (k * 4)).set (k * 4) (.string a)).set (k * 4 + 1) (.string b)).set (k * 4 + 2) (.int .i64 f)).set (k * 4 + 3) (.int .i64 t) = (xs.take (k + 1)).flatMap cellsL ++ zs.drop ((k + 1) * 4) := by
        have hx2 := Hxl.out
        rw [set4 _ _ (k * 4) (by rw [flat_len cellsL 4 (fun _ => rfl), List.length_take]; omega) (by rw [List.length_drop]; omega), HX.out, List.drop_drop, show k * 4 + 4 = (k + 1) * 4 by omega]
        rfl
      have Hset := Lib.hid hset; clear hset
      have hce : ∀ j, j < 4 → ∃ u, w3.cell? ⟨w.heap.size, k * 4 + j, none⟩ = some u ∧ w3.frozen? ⟨w.heap.size, k * 4 + j, none⟩ = false := fun j hj => by
        obtain ⟨u, hu⟩ : ∃ u, ((xs.take k).flatMap cellsL ++ zs.drop (k * 4))[k * 4 + j]? = some u := ⟨_, List.getElem?_eq_getElem (by have := hown.1; omega)⟩
        exact ⟨u, (hown.cellAt (k * 4 + j) (by omega)).trans hu, hown.frozenAt (k * 4 + j)⟩
      obtain ⟨u0, hc0, hf0⟩ := hce 0 (by omega)
      obtain ⟨u1, hc1, hf1⟩ := hce 1 (by omega)
      obtain ⟨u2, hc2, hf2⟩ := hce 2 (by omega)
      obtain ⟨u3, hc3, hf3⟩ := hce 3 (by omega)
      rw [Nat.add_zero] at hc0 hf0
      obtain ⟨ho0, _⟩ := hown.stored (k * 4) (.string a)
      obtain ⟨ho1, _⟩ := ho0.stored (k * 4 + 1) (.string b)
      obtain ⟨ho2, _⟩ := ho1.stored (k * 4 + 2) (.int .i64 f)
      obtain ⟨ho3, _⟩ := ho2.stored (k * 4 + 3) (.int .i64 t)
      rw [Hset.out] at ho3
      have Ho3 := Lib.hid ho3
      have Hb4 := Lib.hid ((((hbl3.setCell (p := ⟨w.heap.size, k * 4, none⟩) (Nat.le_refl _) (.string a)).setCell (p := ⟨w.heap.size, k * 4 + 1, none⟩) (Nat.le_refl _) (.string b)).setCell (p := ⟨w.heap.size, k * 4 + 2, none⟩) (Nat.le_refl _) (.int .i64 f)).setCell (p := ⟨w.heap.size, k * 4 + 3, none⟩) (Nat.le_refl _) (.int .i64 t))
      clear hce hown ho0 ho1 ho2 ho3 hb3 e0 e1 e2 e3 hbl hbl3
      go_wp2_with fail
      go_roundw
      case rel => exact ⟨k + 1, by omega, by go_num, Ho3.out, Hb4.out⟩
      case measure => simp [intOf]; omega
    · have hd : ((xs.take k).flatMap cellsL ++ zs.drop (k * 4)) = xs.flatMap cellsL := by
        rw [List.drop_of_length_le (by have := Hxl.out; omega), List.append_nil, List.take_of_length_le (by omega)]
      rw [hd] at hown
      clear hd
      have hlt' : (xs.length : Int) ≤ (k : Int) := by omega
      have Hown := Lib.hid hown; clear hown
      go_wp2_with fail
      go_ret
      exact ⟨rfl, Hown.out, hbl⟩
theorem toLoanS_c (B : Nat) (v : Value) (xs : List Ln) (w : World) (h : RdL w B v xs) (hB : B ≤ w.heap.size) (hl : xs.length ≤ 1048576) :
    Calls Tryd.prog 8 #[v] w fun e w' => ∃ A c, e = .returned (.slice A xs.length c) ∧ RdL w' w'.heap.size (.slice A xs.length c) xs ∧ Below w.heap.size w w' := by
  refine (toLoanS_any B v xs w h hB hl).mono ?_
  rintro e w' ⟨rfl, ho, hb⟩
  exact ⟨_, _, rfl, Rd.of_own ho, hb⟩
end Go.Proofs.YtplpeeienpaaeaaDoor
