/- Entries, part 2: copies, equality and room of lists of entries; the reading of an argument. -/
import Derived.Test.YtplpeeienpaaeaaDoorEn1
namespace Go.Proofs.YtplpeeienpaaeaaDoor
open Go.RowKit Go.Joins

theorem set5 (l r : List Value) (n : Nat) (hn : l.length = n) (hr : 5 ≤ r.length) (a b c d e : Value) :
    (((((l ++ r).set n a).set (n + 1) b).set (n + 2) c).set (n + 3) d).set (n + 4) e = (l ++ [a, b, c, d, e]) ++ r.drop 5 := by
  subst hn
  match r, hr with
  | x0 :: x1 :: x2 :: x3 :: x4 :: r, _ =>
    rw [List.set_append_right _ _ (Nat.le_refl _), List.set_append_right _ _ (by omega), List.set_append_right _ _ (by omega), List.set_append_right _ _ (by omega), List.set_append_right _ _ (by omega)]
    simp

/-- a new list of the same entries -/
def RetE (w : World) (xs : List Ent) (e : Ending) (w' : World) : Prop :=
  ∃ ys : List (Ent × Value), e = .returned (.slice (some ⟨w.heap.size, 0, none⟩) xs.length xs.length) ∧ ys.map (·.1) = xs ∧ w'.ownsRow w.heap.size 60 5 (.slice (some ⟨w.heap.size, 0, none⟩) xs.length xs.length) xs.length (ys.flatMap cellsE) ∧
    (∀ y ∈ ys, w'.ownsRow (w.heap.size + 1) 9 1 y.2 y.1.words.length (strs y.1.words)) ∧ Below w.heap.size w w'
theorem Rd.of_own' {w : World} {base : Nat} {e : TypeId} {sz n : Nat} {v : Value} {cs : List Value} (h : w.ownsRow base e sz v n cs) : Rd w w.heap.size v n sz cs := Rd.of_own h

set_option maxRecDepth 100000 in
set_option maxHeartbeats 3200000 in
theorem toEntryS_any (B : Nat) (v : Value) (xs : List Ent) (w : World) (h : RdE w B v xs) (hB : B ≤ w.heap.size) (hl : xs.length ≤ 1048576) (hws : ∀ x ∈ xs, x.words.length ≤ 1048576) :
    Calls Tryd.prog 13 #[v] w (RetE w xs) := by
  have H := Lib.hid h
  obtain ⟨A, c, rfl⟩ := h.slice
  have Hws := Lib.hid hws
  obtain ⟨i, hi, hz, h2, h3⟩ := info_parts infoE
  obtain ⟨w1, hr, hown, hg⟩ := run_makeSlice_full (P := Tryd.prog) (w := w) w.heap.size 32 60 i _ 5 Tryd.underlying32 hi hz h2 .i64 .i64 xs.length (by omega) (by rw [h3]; omega) (by simp [maxLen]; omega) (Nat.le_refl _)
  have hb1 := below_of_grown hg (Nat.le_refl _) (fun x hx => by cases hx)
  generalize hxs : (madeCells (Value.cells (.agg #[.int .i64 0, .string ⟨#[]⟩, .string ⟨#[]⟩, .int .i64 0, .slice none 0 0])) (xs.length * 5)).toList = zs at *
  have hxl : zs.length = xs.length * 5 := by simpa using hown.1
  have Hown := Lib.hid hown
  have Hb1 := Lib.hid hb1
  have Hxl := Lib.hid hxl
  clear hi hz h2 h3 hxs hown hb1 hg hxl h hws
  go_enter Tryd.func13, Tryd.ntmps13
  go_wp2_with fail
  clear hr
  go_loopw [4] (fun i wr => ∃ (k : Nat) (ys : List (Ent × Value)), k ≤ xs.length ∧ ys.map (·.1) = xs.take k ∧ i = .int .i64 k ∧ wr.ownsRow w.heap.size 60 5 (.slice (some ⟨w.heap.size, 0, none⟩) xs.length xs.length) xs.length (ys.flatMap cellsE ++ zs.drop (k * 5)) ∧ (∀ y ∈ ys, wr.ownsRow (w.heap.size + 1) 9 1 y.2 y.1.words.length (strs y.1.words)) ∧ Below w.heap.size w wr) (fun i _ => xs.length - (intOf i).toNat)
  case atStart => exact ⟨0, [], Nat.zero_le _, rfl, rfl, by simpa using Hown.out, by simp, Hb1.out⟩
  case round =>
    obtain ⟨k, ys, hk, hys, rfl, hown, hyo, hbl⟩ := hrel
    have Hyo := Lib.hid hyo; clear hyo
    have Hys := Lib.hid hys
    have hyl : ys.length = k := by
      have := congrArg List.length hys
      rw [List.length_map, List.length_take] at this
      omega
    clear hys
    by_cases hlt : k < xs.length
    · obtain ⟨b1, o1, A1, c1, hA, hE⟩ := (H.out.below (hbl.mono hB)).at k hlt
      subst hA
      have hlt' : (k : Int) < (xs.length : Int) := by omega
      have hwl := Hws.out xs[k] (List.getElem_mem hlt)
      have HX := Lib.hid (show xs.take (k + 1) = xs.take k ++ [xs[k]] from List.take_succ_eq_append_getElem hlt)
      generalize xs[k] = x at *
      obtain ⟨num, name, maker, year, words⟩ := x
      obtain ⟨hbB, e0, e1, e2, e3, e4, ew⟩ := hE
      (try dsimp only at e0 e1 e2 e3 e4 ew hwl)
      have HT := Lib.hid (toEntry_any B ⟨num, name, maker, year, words⟩ A1 c1 wr ew (Nat.le_trans hB hbl.size) hwl)
      have hzb : b1 < wr.heap.size := World.block_lt_of_cell? wr _ e0
      have Hown := Lib.hid hown; clear hown ew
      have hgz := (Hown.out.lt w.heap.size rfl).2
      go_wp2_with fail
      refine HT.out.mono ?_; rintro e w3 ⟨A3, c3, rfl, how, hb3⟩
      (try dsimp only at how)
      have hown := own_below Hown.out hb3
      have hbl3 := hbl.trans (hb3.mono hbl.size)
      have hset : (((((ys.flatMap cellsE ++ zs.drop (k * 5)).set (k * 5) (.int .i64 num)).set (k * 5 + 1) (.string name)).set (k * 5 + 2) (.string maker)).set (k * 5 + 3) (.int .i64 year)).set (k * 5 + 4) (.slice A3 words.length c3) = (ys ++ [((⟨num, name, maker, year, words⟩ : Ent), Value.slice A3 words.length c3)]).flatMap cellsE ++ zs.drop ((k + 1) * 5) := by
        have hx2 := Hxl.out
        rw [set5 _ _ (k * 5) (by rw [flat_len cellsE 5 (fun _ => rfl), hyl]) (by rw [List.length_drop]; omega), List.flatMap_append, List.drop_drop, show k * 5 + 5 = (k + 1) * 5 by omega]
        rfl
      have Hset := Lib.hid hset; clear hset
      obtain ⟨u0, hu0⟩ : ∃ u, (ys.flatMap cellsE ++ zs.drop (k * 5))[k * 5 + 0]? = some u := ⟨_, List.getElem?_eq_getElem (by have := hown.1; omega)⟩
      have hc0 : w3.cell? ⟨w.heap.size, k * 5, none⟩ = some u0 := (hown.cellAt (k * 5 + 0) (by omega)).trans hu0
      have hf0 : w3.frozen? ⟨w.heap.size, k * 5, none⟩ = false := hown.frozenAt (k * 5 + 0)
      obtain ⟨u1, hu1⟩ : ∃ u, (ys.flatMap cellsE ++ zs.drop (k * 5))[k * 5 + 1]? = some u := ⟨_, List.getElem?_eq_getElem (by have := hown.1; omega)⟩
      have hc1 : w3.cell? ⟨w.heap.size, k * 5 + 1, none⟩ = some u1 := (hown.cellAt (k * 5 + 1) (by omega)).trans hu1
      have hf1 : w3.frozen? ⟨w.heap.size, k * 5 + 1, none⟩ = false := hown.frozenAt (k * 5 + 1)
      obtain ⟨u2, hu2⟩ : ∃ u, (ys.flatMap cellsE ++ zs.drop (k * 5))[k * 5 + 2]? = some u := ⟨_, List.getElem?_eq_getElem (by have := hown.1; omega)⟩
      have hc2 : w3.cell? ⟨w.heap.size, k * 5 + 2, none⟩ = some u2 := (hown.cellAt (k * 5 + 2) (by omega)).trans hu2
      have hf2 : w3.frozen? ⟨w.heap.size, k * 5 + 2, none⟩ = false := hown.frozenAt (k * 5 + 2)
      obtain ⟨u3, hu3⟩ : ∃ u, (ys.flatMap cellsE ++ zs.drop (k * 5))[k * 5 + 3]? = some u := ⟨_, List.getElem?_eq_getElem (by have := hown.1; omega)⟩
      have hc3 : w3.cell? ⟨w.heap.size, k * 5 + 3, none⟩ = some u3 := (hown.cellAt (k * 5 + 3) (by omega)).trans hu3
      have hf3 : w3.frozen? ⟨w.heap.size, k * 5 + 3, none⟩ = false := hown.frozenAt (k * 5 + 3)
      obtain ⟨u4, hu4⟩ : ∃ u, (ys.flatMap cellsE ++ zs.drop (k * 5))[k * 5 + 4]? = some u := ⟨_, List.getElem?_eq_getElem (by have := hown.1; omega)⟩
      have hc4 : w3.cell? ⟨w.heap.size, k * 5 + 4, none⟩ = some u4 := (hown.cellAt (k * 5 + 4) (by omega)).trans hu4
      have hf4 : w3.frozen? ⟨w.heap.size, k * 5 + 4, none⟩ = false := hown.frozenAt (k * 5 + 4)
      obtain ⟨ho0, _⟩ := hown.stored (k * 5) (.int .i64 num)
      obtain ⟨ho1, _⟩ := ho0.stored (k * 5 + 1) (.string name)
      obtain ⟨ho2, _⟩ := ho1.stored (k * 5 + 2) (.string maker)
      obtain ⟨ho3, _⟩ := ho2.stored (k * 5 + 3) (.int .i64 year)
      obtain ⟨ho4, _⟩ := ho3.stored (k * 5 + 4) (.slice A3 words.length c3)
      rw [Hset.out] at ho4
      have Ho4 := Lib.hid ho4
      have Hb4 := Lib.hid (((((hbl3.setCell (p := ⟨w.heap.size, k * 5, none⟩) (Nat.le_refl _) (.int .i64 num)).setCell (p := ⟨w.heap.size, k * 5 + 1, none⟩) (Nat.le_refl _) (.string name)).setCell (p := ⟨w.heap.size, k * 5 + 2, none⟩) (Nat.le_refl _) (.string maker)).setCell (p := ⟨w.heap.size, k * 5 + 3, none⟩) (Nat.le_refl _) (.int .i64 year)).setCell (p := ⟨w.heap.size, k * 5 + 4, none⟩) (Nat.le_refl _) (.slice A3 words.length c3))
      have hnew : Hid (∀ y ∈ ys ++ [((⟨num, name, maker, year, words⟩ : Ent), Value.slice A3 words.length c3)], (((((w3.setCell ⟨w.heap.size, k * 5, none⟩ (.int .i64 num)).setCell ⟨w.heap.size, k * 5 + 1, none⟩ (.string name)).setCell ⟨w.heap.size, k * 5 + 2, none⟩ (.string maker)).setCell ⟨w.heap.size, k * 5 + 3, none⟩ (.int .i64 year)).setCell ⟨w.heap.size, k * 5 + 4, none⟩ (.slice A3 words.length c3)).ownsRow (w.heap.size + 1) 9 1 y.2 y.1.words.length (strs y.1.words)) := Lib.hid fun y hy => by
        rcases List.mem_append.1 hy with hy | hy
        · exact (ownsRow_setCell_below (ownsRow_setCell_below (ownsRow_setCell_below (ownsRow_setCell_below (ownsRow_setCell_below (own_below (Hyo.out y hy) hb3) (a := ⟨w.heap.size, k * 5, none⟩) (Nat.lt_succ_self _) (.int .i64 num)) (a := ⟨w.heap.size, k * 5 + 1, none⟩) (Nat.lt_succ_self _) (.string name)) (a := ⟨w.heap.size, k * 5 + 2, none⟩) (Nat.lt_succ_self _) (.string maker)) (a := ⟨w.heap.size, k * 5 + 3, none⟩) (Nat.lt_succ_self _) (.int .i64 year)) (a := ⟨w.heap.size, k * 5 + 4, none⟩) (Nat.lt_succ_self _) (.slice A3 words.length c3))
        · obtain rfl := List.mem_singleton.1 hy
          exact (ownsRow_setCell_below (ownsRow_setCell_below (ownsRow_setCell_below (ownsRow_setCell_below (ownsRow_setCell_below (ownsRow_le how (base' := w.heap.size + 1) hgz) (a := ⟨w.heap.size, k * 5, none⟩) (Nat.lt_succ_self _) (.int .i64 num)) (a := ⟨w.heap.size, k * 5 + 1, none⟩) (Nat.lt_succ_self _) (.string name)) (a := ⟨w.heap.size, k * 5 + 2, none⟩) (Nat.lt_succ_self _) (.string maker)) (a := ⟨w.heap.size, k * 5 + 3, none⟩) (Nat.lt_succ_self _) (.int .i64 year)) (a := ⟨w.heap.size, k * 5 + 4, none⟩) (Nat.lt_succ_self _) (.slice A3 words.length c3))
      clear hu0 hu1 hu2 hu3 hu4 hown ho0 ho1 ho2 ho3 ho4 how hb3 e0 e1 e2 e3 e4 hbl hbl3
      go_wp2_with fail
      go_roundw
      case rel => exact ⟨k + 1, _, by omega, by rw [List.map_append, Hys.out, HX.out]; rfl, by go_num, Ho4.out, hnew.out, Hb4.out⟩
      case measure => simp [intOf]; omega
    · have hd : (ys.flatMap cellsE ++ zs.drop (k * 5)) = ys.flatMap cellsE := by
        rw [List.drop_of_length_le (by have := Hxl.out; omega), List.append_nil]
      rw [hd] at hown
      have hfin := Lib.hid (show ys.map (·.1) = xs by rw [Hys.out, List.take_of_length_le (by omega)])
      clear hd
      have hlt' : (xs.length : Int) ≤ (k : Int) := by omega
      have Hown := Lib.hid hown; clear hown
      go_wp2_with fail
      go_ret
      exact ⟨ys, rfl, hfin.out, Hown.out, Hyo.out, hbl⟩

theorem RetE.rd {w w' : World} {xs : List Ent} {e : Ending} (h : RetE w xs e w') : ∃ A c, e = .returned (.slice A xs.length c) ∧ RdE w' w'.heap.size (.slice A xs.length c) xs ∧ Below w.heap.size w w' := by
  obtain ⟨ys, rfl, h1, h2, h3, h4⟩ := h
  exact ⟨_, _, rfl, ⟨ys, h1, Rd.of_own h2, fun y hy => Rd.of_own (h3 y hy)⟩, h4⟩
theorem toEntryS_c (B : Nat) (v : Value) (xs : List Ent) (w : World) (h : RdE w B v xs) (hB : B ≤ w.heap.size) (hl : xs.length ≤ 1048576) (hws : ∀ x ∈ xs, x.words.length ≤ 1048576) :
    Calls Tryd.prog 13 #[v] w fun e w' => ∃ A c, e = .returned (.slice A xs.length c) ∧ RdE w' w'.heap.size (.slice A xs.length c) xs ∧ Below w.heap.size w w' :=
  (toEntryS_any B v xs w h hB hl hws).mono fun _ _ h => h.rd
end Go.Proofs.YtplpeeienpaaeaaDoor
