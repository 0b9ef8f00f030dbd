/- Merged texts: En2, En3, Nm1, Nm2, Nm3, En6, En7, Lib2, Lib3. -/
import Derived.Test.YtmlnaedeghpbbaaGLawByYear2
import Derived.SliceStrings
import Derived.Test.YtmlnaedeghpbbaaGLawByYear1
import Derived.Lib.SmallJoins
import Derived.Deep.RegionHeld3
/- Entries, part 2: copies, equality and room of lists of entries; the reading of an argument. -/
namespace Go.Proofs.Ytmlnaedeghpbbaa
open Go.RowKit Go.Joins

theorem set5 (l r : List Value) (n : Nat) (hn : l.length = n) (hr : 5 ≤ r.length) (a b c d e : Value) :
    (((((l ++ r).set n a).set (n + 1) b).set (n + 2) c).set (n + 3) d).set (n + 4) e = (l ++ [a, b, c, d, e]) ++ r.drop 5 := by
  subst hn
  match r, hr with
  | x0 :: x1 :: x2 :: x3 :: x4 :: r, _ =>
    rw [List.set_append_right _ _ (Nat.le_refl _), List.set_append_right _ _ (by omega), List.set_append_right _ _ (by omega), List.set_append_right _ _ (by omega), List.set_append_right _ _ (by omega)]
    simp

/-- a new list of the same entries -/
def RetE (w : World) (xs : List Ent) (e : Ending) (w' : World) : Prop :=
  ∃ ys : List (Ent × Value), e = .returned (.slice (some ⟨w.heap.size, 0, none⟩) xs.length xs.length) ∧ ys.map (·.1) = xs ∧ w'.ownsRow w.heap.size 39 5 (.slice (some ⟨w.heap.size, 0, none⟩) xs.length xs.length) xs.length (ys.flatMap cellsE) ∧
    (∀ y ∈ ys, w'.ownsRow (w.heap.size + 1) 9 1 y.2 y.1.words.length (strs y.1.words)) ∧ Below w.heap.size w w'
theorem Rd.of_own' {w : World} {base : Nat} {e : TypeId} {sz n : Nat} {v : Value} {cs : List Value} (h : w.ownsRow base e sz v n cs) : Rd w w.heap.size v n sz cs := Rd.of_own h

set_option maxRecDepth 100000 in
set_option maxHeartbeats 3200000 in
theorem toEntryS_any (B : Nat) (v : Value) (xs : List Ent) (w : World) (h : RdE w B v xs) (hB : B ≤ w.heap.size) (hl : xs.length ≤ 1048576) (hws : ∀ x ∈ xs, x.words.length ≤ 1048576) :
    Calls Try.prog 6 #[v] w (RetE w xs) := by
  have H := Lib.hid h
  obtain ⟨A, c, rfl⟩ := h.slice
  have Hws := Lib.hid hws
  obtain ⟨i, hi, hz, h2, h3⟩ := info_parts infoE
  obtain ⟨w1, hr, hown, hg⟩ := run_makeSlice_full (P := Try.prog) (w := w) w.heap.size 27 39 i _ 5 Try.underlying27 hi hz h2 .i64 .i64 xs.length (by omega) (by rw [h3]; omega) (by simp [maxLen]; omega) (Nat.le_refl _)
  have hb1 := below_of_grown hg (Nat.le_refl _) (fun x hx => by cases hx)
  generalize hxs : (madeCells (Value.cells (.agg #[.int .i64 0, .string ⟨#[]⟩, .string ⟨#[]⟩, .int .i64 0, .slice none 0 0])) (xs.length * 5)).toList = zs at *
  have hxl : zs.length = xs.length * 5 := by simpa using hown.1
  have Hown := Lib.hid hown
  have Hb1 := Lib.hid hb1
  have Hxl := Lib.hid hxl
  clear hi hz h2 h3 hxs hown hb1 hg hxl h hws
  go_enter Try.func6, Try.ntmps6
  go_wp2_with fail
  clear hr
  go_loopw [4] (fun i wr => ∃ (k : Nat) (ys : List (Ent × Value)), k ≤ xs.length ∧ ys.map (·.1) = xs.take k ∧ i = .int .i64 k ∧ wr.ownsRow w.heap.size 39 5 (.slice (some ⟨w.heap.size, 0, none⟩) xs.length xs.length) xs.length (ys.flatMap cellsE ++ zs.drop (k * 5)) ∧ (∀ y ∈ ys, wr.ownsRow (w.heap.size + 1) 9 1 y.2 y.1.words.length (strs y.1.words)) ∧ Below w.heap.size w wr) (fun i _ => xs.length - (intOf i).toNat)
  case atStart => exact ⟨0, [], Nat.zero_le _, rfl, rfl, by simpa using Hown.out, by simp, Hb1.out⟩
  case round =>
    obtain ⟨k, ys, hk, hys, rfl, hown, hyo, hbl⟩ := hrel
    have Hyo := Lib.hid hyo; clear hyo
    have Hys := Lib.hid hys
    have hyl : ys.length = k := by
      have := congrArg List.length hys
      rw [List.length_map, List.length_take] at this
      omega
    clear hys
    by_cases hlt : k < xs.length
    · obtain ⟨b1, o1, A1, c1, hA, hE⟩ := (H.out.below (hbl.mono hB)).at k hlt
      subst hA
      have hlt' : (k : Int) < (xs.length : Int) := by omega
      have hwl := Hws.out xs[k] (List.getElem_mem hlt)
      have HX := Lib.hid (show xs.take (k + 1) = xs.take k ++ [xs[k]] from List.take_succ_eq_append_getElem hlt)
      generalize xs[k] = x at *
      obtain ⟨num, name, maker, year, words⟩ := x
      obtain ⟨hbB, e0, e1, e2, e3, e4, ew⟩ := hE
      (try dsimp only at e0 e1 e2 e3 e4 ew hwl)
      have HT := Lib.hid (toEntry_any B ⟨num, name, maker, year, words⟩ A1 c1 wr ew (Nat.le_trans hB hbl.size) hwl)
      have hzb : b1 < wr.heap.size := World.block_lt_of_cell? wr _ e0
      have Hown := Lib.hid hown; clear hown ew
      have hgz := (Hown.out.lt w.heap.size rfl).2
      go_wp2_with fail
      refine HT.out.mono ?_; rintro e w3 ⟨A3, c3, rfl, how, hb3⟩
      (try dsimp only at how)
      have hown := own_below Hown.out hb3
      have hbl3 := hbl.trans (hb3.mono hbl.size)
      have hset : (((((ys.flatMap cellsE ++ zs.drop (k * 5)).set (k * 5) (.int .i64 num)).set (k * 5 + 1) (.string name)).set (k * 5 + 2) (.string maker)).set (k * 5 + 3) (.int .i64 year)).set (k * 5 + 4) (.slice A3 words.length c3) = (ys ++ [((⟨num, name, maker, year, words⟩ : Ent), Value.slice A3 words.length c3)]).flatMap cellsE ++ zs.drop ((k + 1) * 5) := by
        have hx2 := Hxl.out
        rw [set5 _ _ (k * 5) (by rw [flat_len cellsE 5 (fun _ => rfl), hyl]) (by rw [List.length_drop]; omega), List.flatMap_append, List.drop_drop, show k * 5 + 5 = (k + 1) * 5 by omega]
        rfl
      have Hset := Lib.hid hset; clear hset
      obtain ⟨u0, hu0⟩ : ∃ u, (ys.flatMap cellsE ++ zs.drop (k * 5))[k * 5 + 0]? = some u := ⟨_, List.getElem?_eq_getElem (by have := hown.1; omega)⟩
      have hc0 : w3.cell? ⟨w.heap.size, k * 5, none⟩ = some u0 := (hown.cellAt (k * 5 + 0) (by omega)).trans hu0
      have hf0 : w3.frozen? ⟨w.heap.size, k * 5, none⟩ = false := hown.frozenAt (k * 5 + 0)
      obtain ⟨u1, hu1⟩ : ∃ u, (ys.flatMap cellsE ++ zs.drop (k * 5))[k * 5 + 1]? = some u := ⟨_, List.getElem?_eq_getElem (by have := hown.1; omega)⟩
      have hc1 : w3.cell? ⟨w.heap.size, k * 5 + 1, none⟩ = some u1 := (hown.cellAt (k * 5 + 1) (by omega)).trans hu1
      have hf1 : w3.frozen? ⟨w.heap.size, k * 5 + 1, none⟩ = false := hown.frozenAt (k * 5 + 1)
      obtain ⟨u2, hu2⟩ : ∃ u, (ys.flatMap cellsE ++ zs.drop (k * 5))[k * 5 + 2]? = some u := ⟨_, List.getElem?_eq_getElem (by have := hown.1; omega)⟩
      have hc2 : w3.cell? ⟨w.heap.size, k * 5 + 2, none⟩ = some u2 := (hown.cellAt (k * 5 + 2) (by omega)).trans hu2
      have hf2 : w3.frozen? ⟨w.heap.size, k * 5 + 2, none⟩ = false := hown.frozenAt (k * 5 + 2)
      obtain ⟨u3, hu3⟩ : ∃ u, (ys.flatMap cellsE ++ zs.drop (k * 5))[k * 5 + 3]? = some u := ⟨_, List.getElem?_eq_getElem (by have := hown.1; omega)⟩
      have hc3 : w3.cell? ⟨w.heap.size, k * 5 + 3, none⟩ = some u3 := (hown.cellAt (k * 5 + 3) (by omega)).trans hu3
      have hf3 : w3.frozen? ⟨w.heap.size, k * 5 + 3, none⟩ = false := hown.frozenAt (k * 5 + 3)
      obtain ⟨u4, hu4⟩ : ∃ u, (ys.flatMap cellsE ++ zs.drop (k * 5))[k * 5 + 4]? = some u := ⟨_, List.getElem?_eq_getElem (by have := hown.1; omega)⟩
      have hc4 : w3.cell? ⟨w.heap.size, k * 5 + 4, none⟩ = some u4 := (hown.cellAt (k * 5 + 4) (by omega)).trans hu4
      have hf4 : w3.frozen? ⟨w.heap.size, k * 5 + 4, none⟩ = false := hown.frozenAt (k * 5 + 4)
      obtain ⟨ho0, _⟩ := hown.stored (k * 5) (.int .i64 num)
      obtain ⟨ho1, _⟩ := ho0.stored (k * 5 + 1) (.string name)
      obtain ⟨ho2, _⟩ := ho1.stored (k * 5 + 2) (.string maker)
      obtain ⟨ho3, _⟩ := ho2.stored (k * 5 + 3) (.int .i64 year)
      obtain ⟨ho4, _⟩ := ho3.stored (k * 5 + 4) (.slice A3 words.length c3)
      rw [Hset.out] at ho4
      have Ho4 := Lib.hid ho4
      have Hb4 := Lib.hid (((((hbl3.setCell (p := ⟨w.heap.size, k * 5, none⟩) (Nat.le_refl _) (.int .i64 num)).setCell (p := ⟨w.heap.size, k * 5 + 1, none⟩) (Nat.le_refl _) (.string name)).setCell (p := ⟨w.heap.size, k * 5 + 2, none⟩) (Nat.le_refl _) (.string maker)).setCell (p := ⟨w.heap.size, k * 5 + 3, none⟩) (Nat.le_refl _) (.int .i64 year)).setCell (p := ⟨w.heap.size, k * 5 + 4, none⟩) (Nat.le_refl _) (.slice A3 words.length c3))
      have hnew : Hid (∀ y ∈ ys ++ [((⟨num, name, maker, year, words⟩ : Ent), Value.slice A3 words.length c3)], (((((w3.setCell ⟨w.heap.size, k * 5, none⟩ (.int .i64 num)).setCell ⟨w.heap.size, k * 5 + 1, none⟩ (.string name)).setCell ⟨w.heap.size, k * 5 + 2, none⟩ (.string maker)).setCell ⟨w.heap.size, k * 5 + 3, none⟩ (.int .i64 year)).setCell ⟨w.heap.size, k * 5 + 4, none⟩ (.slice A3 words.length c3)).ownsRow (w.heap.size + 1) 9 1 y.2 y.1.words.length (strs y.1.words)) := Lib.hid fun y hy => by
        rcases List.mem_append.1 hy with hy | hy
        · exact (ownsRow_setCell_below (ownsRow_setCell_below (ownsRow_setCell_below (ownsRow_setCell_below (ownsRow_setCell_below (own_below (Hyo.out y hy) hb3) (a := ⟨w.heap.size, k * 5, none⟩) (Nat.lt_succ_self _) (.int .i64 num)) (a := ⟨w.heap.size, k * 5 + 1, none⟩) (Nat.lt_succ_self _) (.string name)) (a := ⟨w.heap.size, k * 5 + 2, none⟩) (Nat.lt_succ_self _) (.string maker)) (a := ⟨w.heap.size, k * 5 + 3, none⟩) (Nat.lt_succ_self _) (.int .i64 year)) (a := ⟨w.heap.size, k * 5 + 4, none⟩) (Nat.lt_succ_self _) (.slice A3 words.length c3))
        · obtain rfl := List.mem_singleton.1 hy
          exact (ownsRow_setCell_below (ownsRow_setCell_below (ownsRow_setCell_below (ownsRow_setCell_below (ownsRow_setCell_below (ownsRow_le how (base' := w.heap.size + 1) hgz) (a := ⟨w.heap.size, k * 5, none⟩) (Nat.lt_succ_self _) (.int .i64 num)) (a := ⟨w.heap.size, k * 5 + 1, none⟩) (Nat.lt_succ_self _) (.string name)) (a := ⟨w.heap.size, k * 5 + 2, none⟩) (Nat.lt_succ_self _) (.string maker)) (a := ⟨w.heap.size, k * 5 + 3, none⟩) (Nat.lt_succ_self _) (.int .i64 year)) (a := ⟨w.heap.size, k * 5 + 4, none⟩) (Nat.lt_succ_self _) (.slice A3 words.length c3))
      clear hu0 hu1 hu2 hu3 hu4 hown ho0 ho1 ho2 ho3 ho4 how hb3 e0 e1 e2 e3 e4 hbl hbl3
      go_wp2_with fail
      go_roundw
      case rel => exact ⟨k + 1, _, by omega, by rw [List.map_append, Hys.out, HX.out]; rfl, by go_num, Ho4.out, hnew.out, Hb4.out⟩
      case measure => simp [intOf]; omega
    · have hd : (ys.flatMap cellsE ++ zs.drop (k * 5)) = ys.flatMap cellsE := by
        rw [List.drop_of_length_le (by have := Hxl.out; omega), List.append_nil]
      rw [hd] at hown
      have hfin := Lib.hid (show ys.map (·.1) = xs by rw [Hys.out, List.take_of_length_le (by omega)])
      clear hd
      have hlt' : (xs.length : Int) ≤ (k : Int) := by omega
      have Hown := Lib.hid hown; clear hown
      go_wp2_with fail
      go_ret
      exact ⟨ys, rfl, hfin.out, Hown.out, Hyo.out, hbl⟩

theorem RetE.rd {w w' : World} {xs : List Ent} {e : Ending} (h : RetE w xs e w') : ∃ A c, e = .returned (.slice A xs.length c) ∧ RdE w' w'.heap.size (.slice A xs.length c) xs ∧ Below w.heap.size w w' := by
  obtain ⟨ys, rfl, h1, h2, h3, h4⟩ := h
  exact ⟨_, _, rfl, ⟨ys, h1, Rd.of_own h2, fun y hy => Rd.of_own (h3 y hy)⟩, h4⟩
theorem toEntryS_c (B : Nat) (v : Value) (xs : List Ent) (w : World) (h : RdE w B v xs) (hB : B ≤ w.heap.size) (hl : xs.length ≤ 1048576) (hws : ∀ x ∈ xs, x.words.length ≤ 1048576) :
    Calls Try.prog 6 #[v] w fun e w' => ∃ A c, e = .returned (.slice A xs.length c) ∧ RdE w' w'.heap.size (.slice A xs.length c) xs ∧ Below w.heap.size w w' :=
  (toEntryS_any B v xs w h hB hl hws).mono fun _ _ h => h.rd
end Go.Proofs.Ytmlnaedeghpbbaa
/- Entries, part 3: equality and room of entries; the reading of an argument. -/
namespace Go.Proofs.Ytmlnaedeghpbbaa
open Go.RowKit Go.Joins

theorem eqStringS_same (B1 B2 : Nat) (v1 v2 : Value) (xs : List ByteArray) (w : World) (h1 : Rd w B1 v1 xs.length 1 (strs xs)) (h2 : Rd w B2 v2 xs.length 1 (strs xs)) (hx : xs.length ≤ 4611686018427387904) :
    Calls Try.prog 31 #[v1, v2] w fun e w' => e = .returned (.bool true) ∧ ∃ n, w' = w.drewN n := by
  refine (eqStringS_any B1 B2 v1 v2 xs xs w h1 h2 hx).mono ?_
  rintro e w' ⟨rfl, h⟩
  exact ⟨by simp, h⟩

/-- an entry as a value -/
abbrev aggE (x : Ent) (A : Option Addr) (c : Nat) : Value := .agg #[.int .i64 x.num, .string x.name, .string x.maker, .int .i64 x.year, .slice A x.words.length c]

set_option maxRecDepth 100000 in
set_option maxHeartbeats 800000 in
theorem eqEntry_same (B1 B2 : Nat) (x : Ent) (A1 A2 : Option Addr) (c1 c2 : Nat) (w : World) (h1 : Rd w B1 (.slice A1 x.words.length c1) x.words.length 1 (strs x.words)) (h2 : Rd w B2 (.slice A2 x.words.length c2) x.words.length 1 (strs x.words)) (hB1 : B1 ≤ w.heap.size) (hB2 : B2 ≤ w.heap.size) (hl : x.words.length ≤ 1048576) :
    Calls Try.prog 20 #[aggE x A1 c1, aggE x A2 c2] w fun e w' => e = .returned (.bool true) ∧ Below w.heap.size w w' := by
  obtain ⟨num, name, maker, year, words⟩ := x
  dsimp only at *
  have Hb := fun o1 o2 => Lib.hid (((Below.refl w.heap.size w).alloc (Nat.le_refl _) o1).alloc (by simp) o2)
  have HE := Lib.hid (fun wx hx hy => eqStringS_same B1 B2 (.slice A1 words.length c1) (.slice A2 words.length c2) words wx hx hy (by omega))
  have H1 := Lib.hid h1
  have H2 := Lib.hid h2
  clear h1 h2
  go_enter Try.func20, Try.ntmps20
  go_wp2_with fail
  refine (HE.out _ (H1.out.below ((Hb _ _).out.mono hB1)) (H2.out.below ((Hb _ _).out.mono hB2))).mono ?_; rintro e w1 ⟨rfl, n, rfl⟩
  have hfin := Lib.hid (below_drewN (Hb (.cells #[.int .i64 num, .string name, .string maker, .int .i64 year, .slice A1 words.length c1] 39) (.cells #[.int .i64 num, .string name, .string maker, .int .i64 year, .slice A2 words.length c2] 39)).out n)
  clear Hb
  go_wp2_with fail
  go_ret
  exact ⟨rfl, hfin.out⟩

/-- the ten cells of two entries -/
theorem EntAt.ten {w : World} {B1 B2 b1 o1 b2 o2 c1 c2 : Nat} {x y : Ent} {A1 A2 : Option Addr} (h : EntAt w B1 b1 o1 x A1 c1) (k : EntAt w B2 b2 o2 y A2 c2) :
    w.cell? ⟨b1, o1, none⟩ = some (.int .i64 x.num) ∧ w.cell? ⟨b1, o1 + 1, none⟩ = some (.string x.name) ∧ w.cell? ⟨b1, o1 + 2, none⟩ = some (.string x.maker) ∧ w.cell? ⟨b1, o1 + 3, none⟩ = some (.int .i64 x.year) ∧ w.cell? ⟨b1, o1 + 4, none⟩ = some (.slice A1 x.words.length c1) ∧
    w.cell? ⟨b2, o2, none⟩ = some (.int .i64 y.num) ∧ w.cell? ⟨b2, o2 + 1, none⟩ = some (.string y.name) ∧ w.cell? ⟨b2, o2 + 2, none⟩ = some (.string y.maker) ∧ w.cell? ⟨b2, o2 + 3, none⟩ = some (.int .i64 y.year) ∧ w.cell? ⟨b2, o2 + 4, none⟩ = some (.slice A2 y.words.length c2) :=
  ⟨h.c0, h.c1, h.c2, h.c3, h.c4, k.c0, k.c1, k.c2, k.c3, k.c4⟩

set_option maxRecDepth 100000 in
set_option maxHeartbeats 1600000 in
theorem eqEntryS_same (B1 B2 : Nat) (v1 v2 : Value) (xs : List Ent) (w : World) (h1 : RdE w B1 v1 xs) (h2 : RdE w B2 v2 xs) (hB1 : B1 ≤ w.heap.size) (hB2 : B2 ≤ w.heap.size) (hl : xs.length ≤ 1048576) (hws : ∀ x ∈ xs, x.words.length ≤ 1048576) :
    Calls Try.prog 9 #[v1, v2] w fun e w' => e = .returned (.bool true) ∧ Below w.heap.size w w' := by
  have H1 := Lib.hid h1
  have H2 := Lib.hid h2
  have Hws := Lib.hid hws
  obtain ⟨A1, c1, rfl⟩ := h1.slice
  obtain ⟨A2, c2, rfl⟩ := h2.slice
  clear h1 h2 hws
  have hb0 := Below.refl w.heap.size w
  go_enter Try.func9, Try.ntmps9
  go_wp2_with fail
  go_loopw [5] (fun i wr => ∃ k : Nat, k ≤ xs.length ∧ i = .int .i64 k ∧ Below w.heap.size w wr) (fun i _ => xs.length - (intOf i).toNat)
  case atStart => exact ⟨0, Nat.zero_le _, rfl, hb0⟩
  case round =>
    obtain ⟨k, hk, rfl, hbl⟩ := hrel
    by_cases hlt : k < xs.length
    · obtain ⟨b1, o1, A3, c3, hA1, hE1⟩ := (H1.out.below (hbl.mono hB1)).at k hlt
      obtain ⟨b2, o2, A4, c4, hA2, hE2⟩ := (H2.out.below (hbl.mono hB2)).at k hlt
      subst hA1 hA2
      have hwl := Hws.out xs[k] (List.getElem_mem hlt)
      generalize xs[k] = x at *
      obtain ⟨num, name, maker, year, words⟩ := x
      have HE1 := Lib.hid hE1
      have HE2 := Lib.hid hE2
      obtain ⟨hbB1, e0, e1, e2, e3, e4, _⟩ := hE1
      obtain ⟨hbB2, f0, f1, f2, f3, f4, _⟩ := hE2
      dsimp only at e0 e1 e2 e3 e4 f0 f1 f2 f3 f4 hwl
      have hlt' : (k : Int) < (xs.length : Int) := by omega
      have hacc : Below w.heap.size w wr.drew := hbl.drew
      have hac2 : Below wr.heap.size wr wr.drew := (Below.refl _ _).drew
      have hz1 : B1 ≤ wr.heap.size := Nat.le_trans hB1 hbl.size
      have hz2 : B2 ≤ wr.heap.size := Nat.le_trans hB2 hbl.size
      clear hbl
      go_wp2_with fail
      go_region_held3 (fun w' => w'.cell? ⟨b1, o1 + k * 5, none⟩ = some (.int .i64 num) ∧ w'.cell? ⟨b1, o1 + k * 5 + 1, none⟩ = some (.string name) ∧ w'.cell? ⟨b1, o1 + k * 5 + 2, none⟩ = some (.string maker) ∧ w'.cell? ⟨b1, o1 + k * 5 + 3, none⟩ = some (.int .i64 year) ∧ w'.cell? ⟨b1, o1 + k * 5 + 4, none⟩ = some (.slice A3 words.length c3) ∧
          w'.cell? ⟨b2, o2 + k * 5, none⟩ = some (.int .i64 num) ∧ w'.cell? ⟨b2, o2 + k * 5 + 1, none⟩ = some (.string name) ∧ w'.cell? ⟨b2, o2 + k * 5 + 2, none⟩ = some (.string maker) ∧ w'.cell? ⟨b2, o2 + k * 5 + 3, none⟩ = some (.int .i64 year) ∧ w'.cell? ⟨b2, o2 + k * 5 + 4, none⟩ = some (.slice A4 words.length c4))
        (first | go_keep | assumption)
        ((go_at_call 20; ((with_reducible refine (eqEntry_same B1 B2 ⟨num, name, maker, year, words⟩ A3 A4 c3 c4 _ (HE1.out.words.below (hac2.mono hz1)) (HE2.out.words.below (hac2.mono hz2)) (Nat.le_trans hz1 hac2.size) (Nat.le_trans hz2 hac2.size) hwl).mono ?_)); rintro e wq ⟨rfl, hbq⟩; have hSq := (HE1.out.below ((hac2.trans (hbq.mono hac2.size)).mono hz1)).ten (HE2.out.below ((hac2.trans (hbq.mono hac2.size)).mono hz2)); dsimp only at hSq; have hacc' := hacc.trans (hbq.mono hacc.size); clear hacc; have hacc := hacc'; clear hacc'))
      go_wp2_with fail
      go_roundw
      case rel => exact ⟨k + 1, by omega, by go_num, hacc⟩
      case measure => simp [intOf]; omega
    · have hlt' : (xs.length : Int) ≤ (k : Int) := by omega
      go_wp2_with fail
      go_ret
      exact ⟨rfl, hbl⟩

/-- all that an argument's entries are -/
def lenE (x : Ent) : Prop := x.name.size ≤ maxLen ∧ x.maker.size ≤ maxLen ∧ x.words.length ≤ maxLen ∧ ∀ z ∈ x.words, z.size ≤ maxLen
/-- small enough -/
def smE (x : Ent) : Prop := x.name.size ≤ 1048576 ∧ x.maker.size ≤ 1048576 ∧ x.words.length ≤ 1048576 ∧ ∀ z ∈ x.words, z.size ≤ 1048576
def SzE (x : Ent) (left : Int) (w : World) (e : Ending) (w' : World) : Prop := ∃ r : Int, e = .returned (.int .i64 r) ∧ r ≤ left ∧ (0 ≤ r → smE x) ∧ Below w.heap.size w w'

set_option maxRecDepth 100000 in
set_option maxHeartbeats 800000 in
theorem szEntry_any (B : Nat) (x : Ent) (A : Option Addr) (c : Nat) (left : Int) (w : World) (h : Rd w B (.slice A x.words.length c) x.words.length 1 (strs x.words)) (hB : B ≤ w.heap.size) (hx : lenE x) (q0 : 0 ≤ left) (q1 : left ≤ 1048576) :
    Calls Try.prog 13 #[aggE x A c, .int .i64 left] w (SzE x left w) := by
  obtain ⟨num, name, maker, year, words⟩ := x
  obtain ⟨l1, l2, l3, l4⟩ := hx
  dsimp only at *
  have hb := Lib.hid ((Below.refl w.heap.size w).alloc (Nat.le_refl _) (.cells #[.int .i64 num, .string name, .string maker, .int .i64 year, .slice A words.length c] 37))
  have HZ := Lib.hid (fun lf wx hx q0 q1 => szStringS_any B (.slice A words.length c) words lf wx hx ⟨l3, l4⟩ q0 q1)
  have H := Lib.hid (h.below (hb.out.mono hB))
  clear h l4
  simp only [maxLen] at l1 l2 l3
  by_cases n1 : left - (name.size : Int) < 0
  · go_enter Try.func13, Try.ntmps13
    go_wp2_with fail
    go_ret
    exact ⟨_, rfl, by omega, by omega, hb.out⟩
  · by_cases n2 : left - (name.size : Int) - (maker.size : Int) < 0
    · go_enter Try.func13, Try.ntmps13
      go_wp2_with fail
      go_ret
      exact ⟨_, rfl, by omega, by omega, hb.out⟩
    · have HZ2 := Lib.hid (HZ.out (left - (name.size : Int) - (maker.size : Int)) _ H.out (by omega) (by omega))
      go_enter Try.func13, Try.ntmps13
      go_wp2_with fail
      refine HZ2.out.mono ?_; rintro e w1 ⟨⟨r, rfl, hr1, hr2⟩, rfl⟩
      have Hr2 := Lib.hid hr2; clear hr2
      by_cases n3 : r < 0
      · go_wp2_with fail
        go_ret
        exact ⟨_, rfl, by omega, by omega, hb.out⟩
      · go_wp2_with fail
        go_ret
        have h5 := Hr2.out (by omega)
        exact ⟨_, rfl, by omega, fun _ => ⟨by show name.size ≤ _; omega, by show maker.size ≤ _; omega, h5.1, h5.2⟩, hb.out⟩

def SzEs (xs : List Ent) (left : Int) (w : World) (e : Ending) (w' : World) : Prop := ∃ r : Int, e = .returned (.int .i64 r) ∧ r ≤ left ∧ (0 ≤ r → xs.length ≤ 1048576 ∧ ∀ x ∈ xs, smE x) ∧ Below w.heap.size w w'
set_option maxRecDepth 100000 in
set_option maxHeartbeats 1600000 in
theorem szEntryS_any (B : Nat) (v : Value) (xs : List Ent) (left : Int) (w : World) (h : RdE w B v xs) (hB : B ≤ w.heap.size) (hl : xs.length ≤ maxLen) (hx : ∀ x ∈ xs, lenE x) (q0 : 0 ≤ left) (q1 : left ≤ 1048576) :
    Calls Try.prog 4 #[v, .int .i64 left] w (SzEs xs left w) := by
  have H := Lib.hid h
  have Hx := Lib.hid hx
  obtain ⟨A, c, rfl⟩ := h.slice
  clear h hx
  simp only [maxLen] at hl
  have hb0 := Lib.hid (Below.refl w.heap.size w)
  by_cases hbig : left - (xs.length : Int) < 0
  · go_enter Try.func4, Try.ntmps4
    go_wp2_with fail
    go_ret
    exact ⟨_, rfl, by omega, by omega, hb0.out⟩
  · have hb1 : (0 : Int) ≤ left - (xs.length : Int) := by omega
    go_enter Try.func4, Try.ntmps4
    go_wp2_with fail
    go_loopw [1, 5] (fun l i wr => ∃ (k : Nat) (r : Int), k ≤ xs.length ∧ 0 ≤ r ∧ r ≤ left ∧ (∀ x ∈ xs.take k, smE x) ∧ l = .int .i64 r ∧ i = .int .i64 k ∧ Below w.heap.size w wr) (fun _ i _ => xs.length - (intOf i).toNat)
    case atStart => exact ⟨0, _, Nat.zero_le _, hb1, by omega, by simp, rfl, rfl, hb0.out⟩
    case round =>
      obtain ⟨k, r, hk, hr0, hr1, hall, rfl, rfl, hbl⟩ := hrel
      have Hall := Lib.hid hall; clear hall
      by_cases hlt : k < xs.length
      · obtain ⟨b1, o1, A1, c1, hA, hE⟩ := (H.out.below (hbl.mono hB)).at k hlt
        subst hA
        have hlt' : (k : Int) < (xs.length : Int) := by omega
        have Hle := Lib.hid (Hx.out xs[k] (List.getElem_mem hlt))
        have Hst := Lib.hid (show smE xs[k] → ∀ x ∈ xs.take (k + 1), smE x from fun h x hx => by
          rw [List.take_succ_eq_append_getElem hlt] at hx
          rcases List.mem_append.1 hx with h1 | h1
          · exact Hall.out x h1
          · rw [List.mem_singleton.1 h1]; exact h)
        generalize xs[k] = x at *
        obtain ⟨num, name, maker, year, words⟩ := x
        have HZ := Lib.hid (szEntry_any B ⟨num, name, maker, year, words⟩ A1 c1 r wr hE.words (Nat.le_trans hB hbl.size) Hle.out hr0 (by omega))
        obtain ⟨hbB, e0, e1, e2, e3, e4, _⟩ := hE
        dsimp only at e0 e1 e2 e3 e4
        go_wp2_with fail
        refine HZ.out.mono ?_; rintro e w1 ⟨r', rfl, hr1', hr2', hb1'⟩
        have hbl1 := hbl.trans (hb1'.mono hbl.size)
        have Hr2 := Lib.hid hr2'; clear hr2' hbl hb1'
        by_cases n1 : r' < 0
        · go_wp2_with fail
          go_ret
          exact ⟨_, rfl, by omega, by omega, hbl1⟩
        · go_wp2_with fail
          go_roundw
          case rel => exact ⟨k + 1, r', by omega, by omega, by omega, Hst.out (Hr2.out (by omega)), rfl, by go_num, hbl1⟩
          case measure => simp [intOf]; omega
      · have hfin := Hall.out
        rw [List.take_of_length_le (by omega)] at hfin
        have Hfin := Lib.hid hfin; clear hfin
        have hlt' : (xs.length : Int) ≤ (k : Int) := by omega
        go_wp2_with fail
        go_ret
        exact ⟨_, rfl, hr1, fun _ => ⟨by omega, Hfin.out⟩, hbl⟩
end Go.Proofs.Ytmlnaedeghpbbaa
/- Names: IsName on both sides. -/
namespace Go.Proofs.Ytmlnaedeghpbbaa
open Go.RowKit Go.Joins

def smC (c : Nat) : Bool := decide (97 ≤ c) && decide (c ≤ 122)
def dgC (c : Nat) : Bool := decide (48 ≤ c) && decide (c ≤ 57)
def okC (c : Nat) : Bool := smC c || dgC c || decide (c = 45)
/-- a name -/
def isNm (l : List UInt8) : Bool := match l with
  | [] => false
  | c :: t => decide (t.length < 12) && smC c.toNat && (c :: t).all fun c => okC c.toNat
theorem isNm_nil : isNm [] = false := rfl
theorem isNm_cons (c : UInt8) (t : List UInt8) : isNm (c :: t) = (decide (t.length < 12) && smC c.toNat && (c :: t).all fun c => okC c.toNat) := rfl
theorem isNm_long (l : List UInt8) (h : 12 < l.length) : isNm l = false := by
  cases l with
  | nil => rfl
  | cons c t =>
    have : ¬ t.length < 12 := by simp at h; omega
    simp [isNm, this]
theorem isNm_bad (l : List UInt8) (k : Nat) (hk : k < l.length) (h : okC l[k].toNat = false) : isNm l = false := by
  cases l with
  | nil => rfl
  | cons c t =>
    have : ((c :: t).all fun c => okC c.toNat) = false := by
      rw [List.all_eq_false]
      exact ⟨_, List.getElem_mem hk, by simp [h]⟩
    rw [isNm_cons, this, Bool.and_false]
theorem isNm_first (l : List UInt8) (hk : 0 < l.length) (h : smC l[0].toNat = false) : isNm l = false := by
  cases l with
  | nil => rfl
  | cons c t => simp at h; simp [isNm, h]
theorem isNm_yes (l : List UInt8) (hk : 0 < l.length) (hk2 : l.length ≤ 12) (h : smC l[0].toNat = true) (ha : (l.all fun c => okC c.toNat) = true) : isNm l = true := by
  cases l with
  | nil => simp at hk
  | cons c t =>
    simp only [List.length_cons] at hk2
    have : t.length < 12 := by omega
    simp at h
    rw [isNm_cons, ha, h]
    simp [this]
theorem all_step (l : List UInt8) (k : Nat) (hk : k < l.length) (h0 : ((l.take k).all fun c => okC c.toNat) = true) (h : okC l[k].toNat = true) : ((l.take (k + 1)).all fun c => okC c.toNat) = true := by
  rw [List.take_succ_eq_append_getElem hk, List.all_append, h0]
  simp [h]
theorem chr_cases (x : Nat) : (smC x = true ∧ 97 ≤ x ∧ x ≤ 122) ∨ (smC x = false ∧ dgC x = true ∧ 48 ≤ x ∧ x ≤ 57) ∨ (smC x = false ∧ dgC x = false ∧ x = 45) ∨ (smC x = false ∧ dgC x = false ∧ x ≠ 45 ∧ x < 97) ∨ (smC x = false ∧ dgC x = false ∧ x ≠ 45 ∧ 122 < x) := by
  simp only [smC, dgC, Bool.and_eq_true, Bool.and_eq_false_iff, decide_eq_true_eq, decide_eq_false_iff_not]
  omega

theorem isDigit_any (x : Nat) (w : World) :
    Calls Try.prog 49 #[.int .u8 (x : Int)] w fun e w' => e = .returned (.bool (dgC x)) ∧ w = w' := by
  by_cases h1 : 48 ≤ x
  · by_cases h2 : x ≤ 57
    all_goals
      have e1 := Lib.hid (show dgC x = decide (x ≤ 57) by simp [dgC, h1])
      go_enter Try.func49, Try.ntmps49
      go_wp2
      go_ret
      rw [e1.out]; simp [h2] <;> omega
  · have e1 := Lib.hid (show dgC x = false by simp [dgC, h1])
    have h1' : (x : Int) < 48 := by omega
    go_enter Try.func49, Try.ntmps49
    go_wp2
    go_ret
    rw [e1.out]; exact ⟨rfl, rfl⟩
theorem l01Small_any (x : Nat) (w : World) :
    Calls Try.prog 47 #[.int .u8 (x : Int)] w fun e w' => e = .returned (.bool (smC x)) ∧ w = w' := by
  by_cases h1 : 97 ≤ x
  · by_cases h2 : x ≤ 122
    all_goals
      have e1 := Lib.hid (show smC x = decide (x ≤ 122) by simp [smC, h1])
      go_enter Try.func47, Try.ntmps47
      go_wp2
      go_ret
      rw [e1.out]; simp [h2] <;> omega
  · have e1 := Lib.hid (show smC x = false by simp [smC, h1])
    have h1' : (x : Int) < 97 := by omega
    go_enter Try.func47, Try.ntmps47
    go_wp2
    go_ret
    rw [e1.out]; exact ⟨rfl, rfl⟩
theorem l01Digit_any (x : Nat) (w : World) :
    Calls Try.prog 48 #[.int .u8 (x : Int)] w fun e w' => e = .returned (.bool (dgC x)) ∧ w = w' := by
  by_cases h1 : 48 ≤ x
  · by_cases h2 : x ≤ 57
    all_goals
      have e1 := Lib.hid (show dgC x = decide (x ≤ 57) by simp [dgC, h1])
      go_enter Try.func48, Try.ntmps48
      go_wp2
      go_ret
      rw [e1.out]; simp [h2] <;> omega
  · have e1 := Lib.hid (show dgC x = false by simp [dgC, h1])
    have h1' : (x : Int) < 48 := by omega
    go_enter Try.func48, Try.ntmps48
    go_wp2
    go_ret
    rw [e1.out]; exact ⟨rfl, rfl⟩
end Go.Proofs.Ytmlnaedeghpbbaa
/- Names, part 2: the walks of IsName. -/
namespace Go.Proofs.Ytmlnaedeghpbbaa
open Go.RowKit Go.Joins

theorem okC_sm {x : Nat} (h : smC x = true) : okC x = true := by simp [okC, h]
theorem okC_dg {x : Nat} (h : dgC x = true) : okC x = true := by simp [okC, h]
theorem okC_da {x : Nat} (h : x = 45) : okC x = true := by simp [okC, h]
theorem okC_no {x : Nat} (h : smC x = false) (h2 : dgC x = false) (h3 : x ≠ 45) : okC x = false := by simp [okC, h, h2, h3]

set_option maxRecDepth 100000 in
set_option maxHeartbeats 1600000 in
theorem IsNameI_any (s : ByteArray) (w : World) (hs : s.size ≤ 1048576) :
    Calls Try.prog 35 #[.string s] w fun e w' => e = .returned (.bool (isNm s.data.toList)) ∧ w = w' := by
  have hsz : s.data.toList.length = s.size := by simp
  have Hsz := Lib.hid hsz; clear hsz
  by_cases h0 : s.size = 0
  · have hfin := Lib.hid (show isNm s.data.toList = false by
      have he : s.data.toList = [] := List.eq_nil_of_length_eq_zero (by rw [Hsz.out, h0])
      rw [he]; rfl)
    have hq : ((s.size : Int) == 0) = true := by simp [h0]
    clear h0
    go_enter Try.func35, Try.ntmps35
    go_wp2_with fail
    go_ret
    rw [hfin.out]; exact ⟨rfl, rfl⟩
  · have hq : ((s.size : Int) == 0) = false := by simpa using h0
    by_cases h12 : 12 < s.size
    · have hfin := Lib.hid (isNm_long s.data.toList (by rw [Hsz.out]; exact h12))
      have hq2 : (12 : Int) < (s.size : Int) := by omega
      clear h0
      go_enter Try.func35, Try.ntmps35
      go_wp2_with fail
      go_ret
      rw [hfin.out]; exact ⟨rfl, rfl⟩
    · have hq2 : (s.size : Int) ≤ 12 := by omega
      have hp : 0 < s.data.toList.length := by rw [Hsz.out]; omega
      have Hp := Lib.hid hp
      go_enter Try.func35, Try.ntmps35
      go_wp2_with fail
      go_loop [15] (fun i => ∃ k : Nat, k ≤ s.size ∧ ((s.data.toList.take k).all fun c => okC c.toNat) = true ∧ (0 < k → smC (s.data.toList[0]'hp).toNat = true) ∧ i = .int .i64 k) (fun i => s.size - (intOf i).toNat)
      case atStart => exact ⟨0, Nat.zero_le _, rfl, by omega, rfl⟩
      case round =>
        obtain ⟨k, hk, hall, hfst, rfl⟩ := hrel
        have Hall := Lib.hid hall; clear hall
        have Hfst := Lib.hid hfst; clear hfst
        by_cases hlt : k < s.size
        · have hkl : k < s.data.toList.length := by rw [Hsz.out]; exact hlt
          have Hbad := Lib.hid (show okC s[k].toNat = false → isNm s.data.toList = false from fun h => isNm_bad s.data.toList k hkl h)
          have Hst := Lib.hid (show okC s[k].toNat = true → ((s.data.toList.take (k + 1)).all fun c => okC c.toNat) = true from fun h => all_step s.data.toList k hkl Hall.out h)
          have Hfk := Lib.hid (show smC s[k].toNat = true → smC (s.data.toList[0]'hp).toNat = true from fun h => by
            by_cases hk0 : k = 0
            · subst hk0; exact h
            · exact Hfst.out (by omega))
          have Hf0 := Lib.hid (show k = 0 → smC s[k].toNat = false → isNm s.data.toList = false from fun h h2 => isNm_first s.data.toList hp (by subst h; exact h2))
          have hx8 := s[k].toNat_lt
          have hx9 : (s[k].toNat : Int) < 256 := by omega
          have HD := Lib.hid (fun wx => isDigit_any s[k].toNat wx)
          clear hx8
          have hlt' : (k : Int) < (s.size : Int) := by omega
          by_cases hk0 : k = 0
          · have hqk : ((k : Int) == 0) = true := by simp [hk0]
            rcases chr_cases s[k].toNat with ⟨c1, c2, c3⟩ | ⟨c1, c2, c3, c4⟩ | ⟨c1, c2, c3⟩ | ⟨c1, c2, c3, c4⟩ | ⟨c1, c2, c3, c4⟩
            · have hst := Lib.hid (Hst.out (okC_sm c1))
              have hf := Lib.hid (Hfk.out c1)
              clear Hbad Hst Hfk Hf0 c1 hk0
              have d1 : (97 : Int) ≤ (s[k].toNat : Int) := by omega
              have d2 : (s[k].toNat : Int) ≤ 122 := by omega
              go_wp2_with fail
              go_round
              case rel => exact ⟨k + 1, by omega, hst.out, fun _ => hf.out, by go_num⟩
              case measure => simp [intOf]; omega
            all_goals
              have hfin := Lib.hid (Hf0.out hk0 c1)
              clear Hbad Hst Hfk Hf0 c1 c2 hk0
              rcases Nat.lt_or_ge s[k].toNat 97 with d0 | d0
              · first
                | (exfalso; omega)
                | (have d1 : (s[k].toNat : Int) < 97 := by omega
                   go_wp2_with fail
                   go_ret
                   rw [hfin.out]; exact ⟨rfl, rfl⟩)
              · first
                | (exfalso; omega)
                | (have d1 : (97 : Int) ≤ (s[k].toNat : Int) := by omega
                   have d2 : decide ((s[k].toNat : Int) ≤ 122) = false := by rw [decide_eq_false_iff_not]; omega
                   go_wp2_with fail
                   go_ret
                   rw [hfin.out]; exact ⟨rfl, rfl⟩)
          · have hqk : ((k : Int) == 0) = false := by simpa using hk0
            have hf := Lib.hid (Hfst.out (by omega))
            rcases chr_cases s[k].toNat with ⟨c1, c2, c3⟩ | ⟨c1, c2, c3, c4⟩ | ⟨c1, c2, c3⟩ | ⟨c1, c2, c3, c4⟩ | ⟨c1, c2, c3, c4⟩
            · have hst := Lib.hid (Hst.out (okC_sm c1))
              clear Hbad Hst Hfk Hf0 c1 hk0
              have d1 : (97 : Int) ≤ (s[k].toNat : Int) := by omega
              have d2 : (s[k].toNat : Int) ≤ 122 := by omega
              go_wp2_with fail
              go_round
              case rel => exact ⟨k + 1, by omega, hst.out, fun _ => hf.out, by go_num⟩
              case measure => simp [intOf]; omega
            · have hst := Lib.hid (Hst.out (okC_dg c2))
              rw [c2] at HD
              clear Hbad Hst Hfk Hf0 c1 c2 hk0
              have d1 : (s[k].toNat : Int) < 97 := by omega
              have d3 : ((s[k].toNat : Int) != 45) = true := by rw [bne_iff_ne]; omega
              go_wp2_with fail
              refine (HD.out _).mono ?_; rintro e w1 ⟨rfl, rfl⟩
              go_wp2_with fail
              go_round
              case rel => exact ⟨k + 1, by omega, hst.out, fun _ => hf.out, by go_num⟩
              case measure => simp [intOf]; omega
            · have hst := Lib.hid (Hst.out (okC_da c3))
              clear Hbad Hst Hfk Hf0 c1 c2 hk0
              have d1 : (s[k].toNat : Int) < 97 := by omega
              have d3 : ((s[k].toNat : Int) != 45) = false := by simp [c3]
              clear c3
              go_wp2_with fail
              go_round
              case rel => exact ⟨k + 1, by omega, hst.out, fun _ => hf.out, by go_num⟩
              case measure => simp [intOf]; omega
            · have hfin := Lib.hid (Hbad.out (okC_no c1 c2 c3))
              rw [c2] at HD
              have d1 : (s[k].toNat : Int) < 97 := by omega
              have d3 : ((s[k].toNat : Int) != 45) = true := by rw [bne_iff_ne]; omega
              clear Hbad Hst Hfk Hf0 c1 c2 c3 hk0
              go_wp2_with fail
              refine (HD.out _).mono ?_; rintro e w1 ⟨rfl, rfl⟩
              go_wp2_with fail
              go_ret
              rw [hfin.out]; exact ⟨rfl, rfl⟩
            · have hfin := Lib.hid (Hbad.out (okC_no c1 c2 c3))
              rw [c2] at HD
              have d1 : (97 : Int) ≤ (s[k].toNat : Int) := by omega
              have d2 : decide ((s[k].toNat : Int) ≤ 122) = false := by rw [decide_eq_false_iff_not]; omega
              have d3 : ((s[k].toNat : Int) != 45) = true := by rw [bne_iff_ne]; omega
              clear Hbad Hst Hfk Hf0 c1 c2 c3 hk0
              go_wp2_with fail
              refine (HD.out _).mono ?_; rintro e w1 ⟨rfl, rfl⟩
              go_wp2_with fail
              go_ret
              rw [hfin.out]; exact ⟨rfl, rfl⟩
        · have hfin := Lib.hid (show isNm s.data.toList = true from isNm_yes _ hp (by rw [Hsz.out]; omega) (Hfst.out (by omega)) (by
            have := Hall.out
            rwa [List.take_of_length_le (by rw [Hsz.out]; omega)] at this))
          have hlt' : (s.size : Int) ≤ (k : Int) := by omega
          go_wp2_with fail
          go_ret
          rw [hfin.out]; exact ⟨rfl, rfl⟩
end Go.Proofs.Ytmlnaedeghpbbaa
/- Names, part 3: the reference's IsName. -/
namespace Go.Proofs.Ytmlnaedeghpbbaa
open Go.RowKit Go.Joins

theorem toList_ne {s : ByteArray} (h : s.size ≠ 0) : s.toList.isEmpty = false := by
  cases hs : s.toList.isEmpty with
  | false => rfl
  | true =>
    have h1 : s.toList = [] := by simpa using hs
    have h2 := congrArg List.length h1
    rw [ByteArray.toList_eq] at h2
    simp at h2
    exact absurd h2 (by simpa using h)

set_option maxRecDepth 100000 in
set_option maxHeartbeats 1600000 in
theorem IsNameS_any (s : ByteArray) (w : World) (hs : s.size ≤ 1048576) :
    Calls Try.prog 33 #[.string s] w fun e w' => e = .returned (.bool (isNm s.data.toList)) ∧ w = w' := by
  have hsz : s.data.toList.length = s.size := by simp
  have Hsz := Lib.hid hsz; clear hsz
  by_cases h0 : s.size = 0
  · obtain rfl : s = ⟨#[]⟩ := by
      obtain ⟨⟨l⟩⟩ := s
      have : l = [] := List.eq_nil_of_length_eq_zero h0
      rw [this]
    clear h0
    go_enter Try.func33, Try.ntmps33
    go_wp2_with fail
    go_ret
    exact ⟨rfl, rfl⟩
  · have he := toList_ne h0
    have hp : 0 < s.data.toList.length := by rw [Hsz.out]; omega
    have hp0 : 0 < s.size := by omega
    have hp1 : (0 : Int) < (s.size : Int) := by omega
    by_cases h12 : 12 < s.size
    · have hfin := Lib.hid (isNm_long s.data.toList (by rw [Hsz.out]; exact h12))
      have hq2 : (12 : Int) < (s.size : Int) := by omega
      clear h0
      go_enter Try.func33, Try.ntmps33
      go_wp2_with fail
      go_ret
      rw [hfin.out]; exact ⟨rfl, rfl⟩
    · have hq2 : (s.size : Int) ≤ 12 := by omega
      have HS := Lib.hid (fun wx => l01Small_any s[0].toNat wx)
      have hx8 := s[0].toNat_lt
      cases hsm : smC s[0].toNat with
      | false =>
        have hfin := Lib.hid (isNm_first s.data.toList hp hsm)
        rw [hsm] at HS
        clear hsm h0
        go_enter Try.func33, Try.ntmps33
        go_wp2_with fail
        refine (HS.out _).mono ?_; rintro e w1 ⟨rfl, rfl⟩
        go_wp2_with fail
        go_ret
        rw [hfin.out]; exact ⟨rfl, rfl⟩
      | true =>
        have Hyes := Lib.hid (fun h => isNm_yes s.data.toList hp (by rw [Hsz.out]; omega) hsm h)
        rw [hsm] at HS
        clear hsm h0
        go_enter Try.func33, Try.ntmps33
        go_wp2_with fail
        refine (HS.out _).mono ?_; rintro e w1 ⟨rfl, rfl⟩
        go_wp2_with fail
        go_loop [3] (fun i => ∃ k : Nat, k ≤ s.size ∧ ((s.data.toList.take k).all fun c => okC c.toNat) = true ∧ i = .int .i64 k) (fun i => s.size - (intOf i).toNat)
        case atStart => exact ⟨0, Nat.zero_le _, rfl, rfl⟩
        case round =>
          obtain ⟨k, hk, hall, rfl⟩ := hrel
          have Hall := Lib.hid hall; clear hall
          by_cases hlt : k < s.size
          · have hkl : k < s.data.toList.length := by rw [Hsz.out]; exact hlt
            have Hbad := Lib.hid (show okC s[k].toNat = false → isNm s.data.toList = false from fun h => isNm_bad s.data.toList k hkl h)
            have Hst := Lib.hid (show okC s[k].toNat = true → ((s.data.toList.take (k + 1)).all fun c => okC c.toNat) = true from fun h => all_step s.data.toList k hkl Hall.out h)
            have hx8 := s[k].toNat_lt
            have hx9 : (s[k].toNat : Int) < 256 := by omega
            have HC := Lib.hid (fun wx => l01Small_any s[k].toNat wx)
            have HD := Lib.hid (fun wx => l01Digit_any s[k].toNat wx)
            clear hx8
            have hlt' : (k : Int) < (s.size : Int) := by omega
            cases c1 : smC s[k].toNat with
            | true =>
              have hst := Lib.hid (Hst.out (okC_sm c1))
              rw [c1] at HC
              clear Hbad Hst c1
              go_wp2_with fail
              refine (HC.out _).mono ?_; rintro e w1 ⟨rfl, rfl⟩
              go_wp2_with fail
              go_round
              case rel => exact ⟨k + 1, by omega, hst.out, by go_num⟩
              case measure => simp [intOf]; omega
            | false =>
              rw [c1] at HC
              cases c2 : dgC s[k].toNat with
              | true =>
                have hst := Lib.hid (Hst.out (okC_dg c2))
                rw [c2] at HD
                clear Hbad Hst c1 c2
                go_wp2_with fail
                refine (HC.out _).mono ?_; rintro e w1 ⟨rfl, rfl⟩
                go_wp2_with fail
                refine (HD.out _).mono ?_; rintro e w1 ⟨rfl, rfl⟩
                go_wp2_with fail
                go_round
                case rel => exact ⟨k + 1, by omega, hst.out, by go_num⟩
                case measure => simp [intOf]; omega
              | false =>
                rw [c2] at HD
                by_cases c3 : s[k].toNat = 45
                · have hst := Lib.hid (Hst.out (okC_da c3))
                  have d3 : ((s[k].toNat : Int) != 45) = false := by simp [c3]
                  clear Hbad Hst c1 c2 c3
                  go_wp2_with fail
                  refine (HC.out _).mono ?_; rintro e w1 ⟨rfl, rfl⟩
                  go_wp2_with fail
                  refine (HD.out _).mono ?_; rintro e w1 ⟨rfl, rfl⟩
                  go_wp2_with fail
                  go_round
                  case rel => exact ⟨k + 1, by omega, hst.out, by go_num⟩
                  case measure => simp [intOf]; omega
                · have hfin := Lib.hid (Hbad.out (okC_no c1 c2 c3))
                  have d3 : ((s[k].toNat : Int) != 45) = true := by rw [bne_iff_ne]; omega
                  clear Hbad Hst c1 c2 c3
                  go_wp2_with fail
                  refine (HC.out _).mono ?_; rintro e w1 ⟨rfl, rfl⟩
                  go_wp2_with fail
                  refine (HD.out _).mono ?_; rintro e w1 ⟨rfl, rfl⟩
                  go_wp2_with fail
                  go_ret
                  rw [hfin.out]; exact ⟨rfl, rfl⟩
          · have hfin := Lib.hid (Hyes.out (by
              have := Hall.out
              rwa [List.take_of_length_le (by rw [Hsz.out]; omega)] at this))
            have hlt' : (s.size : Int) ≤ (k : Int) := by omega
            go_wp2_with fail
            go_ret
            rw [hfin.out]; exact ⟨rfl, rfl⟩
end Go.Proofs.Ytmlnaedeghpbbaa
/- Entries, part 6: a valid entry, both sides. -/
namespace Go.Proofs.Ytmlnaedeghpbbaa
open Go.RowKit Go.Joins

/-- all of the first n -/
def chk (n : Nat) (f : Nat → Bool) : Bool := (List.range n).all f
theorem chk_bad {n : Nat} {f : Nat → Bool} (k : Nat) (hk : k < n) (h : f k = false) : chk n f = false := by
  unfold chk
  rw [List.all_eq_false]
  exact ⟨k, List.mem_range.2 hk, by simp [h]⟩
theorem chk_step {f : Nat → Bool} {k : Nat} (h0 : chk k f = true) (h : f k = true) : chk (k + 1) f = true := by
  unfold chk at *
  rw [List.range_succ, List.all_append, h0]
  simp [h]
def lessS (a b : ByteArray) : Bool := Op.bytesLess a.toList b.toList
theorem bl_tot : ∀ a b : List UInt8, Op.bytesLess a b = !(Op.bytesLess b a || b == a)
  | [], [] => rfl
  | [], _ :: _ => by simp [Op.bytesLess]
  | _ :: _, [] => by simp [Op.bytesLess]
  | a :: x, b :: y => by
    have ih := bl_tot x y
    rcases Nat.lt_trichotomy a.toNat b.toNat with h | h | h
    · have h1 : a < b := UInt8.lt_iff_toNat_lt.2 h
      have h2 : ¬ b < a := fun e => by have := UInt8.lt_iff_toNat_lt.1 e; omega
      have h3 : b ≠ a := fun e => by rw [e] at h; omega
      simp [Op.bytesLess, h1, h2, h3]
    · have h1 : a = b := UInt8.toNat_inj.1 h
      subst h1
      have h2 : ¬ a < a := fun e => by have := UInt8.lt_iff_toNat_lt.1 e; omega
      simp only [Op.bytesLess, h2, ih]
      simp
    · have h1 : ¬ a < b := fun e => by have := UInt8.lt_iff_toNat_lt.1 e; omega
      have h2 : b < a := UInt8.lt_iff_toNat_lt.2 h
      have h3 : a ≠ b := fun e => by rw [e] at h; omega
      simp [Op.bytesLess, h1, h2, h3]
/-- what the two sides ask of neighbours -/
theorem less_yes {a b : ByteArray} (h : lessS a b = true) : (Op.bytesLess b.toList a.toList || b.toList == a.toList) = false ∧ Op.bytesLess b.toList a.toList = false ∧ (b.toList == a.toList) = false ∧ Op.bytesLess a.toList b.toList = true := by
  have h1 := bl_tot a.toList b.toList
  unfold lessS at h
  rw [h] at h1
  have h2 : (Op.bytesLess b.toList a.toList || b.toList == a.toList) = false := by simpa using h1.symm
  have h3 := h2
  rw [Bool.or_eq_false_iff] at h3
  exact ⟨h2, h3.1, h3.2, h⟩
theorem less_no {a b : ByteArray} (h : lessS a b = false) : (Op.bytesLess b.toList a.toList || b.toList == a.toList) = true ∧ Op.bytesLess a.toList b.toList = false := by
  have h1 := bl_tot a.toList b.toList
  unfold lessS at h
  rw [h] at h1
  refine ⟨?_, h⟩
  cases hh : (Op.bytesLess b.toList a.toList || b.toList == a.toList) with
  | true => rfl
  | false => rw [hh] at h1; simp at h1

def wordOk (l : List ByteArray) (i : Nat) : Bool := isNm (l.getD i ⟨#[]⟩).data.toList && (decide (i = 0) || lessS (l.getD (i - 1) ⟨#[]⟩) (l.getD i ⟨#[]⟩))
def entOk (x : Ent) : Bool := inB x.num 1 1000000 && isNm x.name.data.toList && isNm x.maker.data.toList && inB x.year 1000 3000 && decide (x.words.length ≤ 8) && chk x.words.length (wordOk x.words)
theorem getD_at (l : List ByteArray) (k : Nat) (hk : k < l.length) : l.getD k ⟨#[]⟩ = l[k] := by simp [List.getD, hk]
theorem wordOk_nm (l : List ByteArray) (k : Nat) (hk : k < l.length) (h : isNm l[k].data.toList = false) : wordOk l k = false := by unfold wordOk; rw [getD_at l k hk, h]; rfl
theorem wordOk_0 (l : List ByteArray) (hk : 0 < l.length) (h : isNm l[0].data.toList = true) : wordOk l 0 = true := by unfold wordOk; rw [getD_at l 0 hk, h]; rfl
theorem wordOk_s (l : List ByteArray) (k : Nat) (hk : k + 1 < l.length) (h : isNm l[k + 1].data.toList = true) : wordOk l (k + 1) = lessS l[k] l[k + 1] := by
  unfold wordOk
  rw [getD_at l (k + 1) hk, h, show k + 1 - 1 = k by omega, getD_at l k (by omega)]
  simp
theorem entOk_1 {x : Ent} (h : inB x.num 1 1000000 = false) : entOk x = false := by unfold entOk; rw [h]; rfl
theorem entOk_2 {x : Ent} (h : isNm x.name.data.toList = false) : entOk x = false := by unfold entOk; rw [h]; simp
theorem entOk_3 {x : Ent} (h : isNm x.maker.data.toList = false) : entOk x = false := by unfold entOk; rw [h]; simp
theorem entOk_4 {x : Ent} (h : inB x.year 1000 3000 = false) : entOk x = false := by unfold entOk; rw [h]; simp
theorem entOk_5 {x : Ent} (h : 8 < x.words.length) : entOk x = false := by unfold entOk; rw [decide_eq_false (by omega)]; simp
theorem entOk_6 {x : Ent} (h1 : inB x.num 1 1000000 = true) (h2 : isNm x.name.data.toList = true) (h3 : isNm x.maker.data.toList = true) (h4 : inB x.year 1000 3000 = true) (h5 : x.words.length ≤ 8) : entOk x = chk x.words.length (wordOk x.words) := by unfold entOk; rw [h1, h2, h3, h4, decide_eq_true h5]; simp

set_option maxRecDepth 100000 in
set_option maxHeartbeats 3200000 in
theorem validEntry_any (B : Nat) (x : Ent) (A : Option Addr) (c : Nat) (w : World) (h : Rd w B (.slice A x.words.length c) x.words.length 1 (strs x.words)) (hB : B ≤ w.heap.size) (hsm : smE x) :
    Calls Try.prog 26 #[aggE x A c] w fun e w' => e = .returned (.bool (entOk x)) ∧ Below w.heap.size w w' := by
  obtain ⟨num, name, maker, year, words⟩ := x
  obtain ⟨l1, l2, l3, l4⟩ := hsm
  dsimp only at *
  have hsz := Lib.hid l4
  have hb0 := Lib.hid ((Below.refl w.heap.size w).alloc (Nat.le_refl _) (.cells #[.int .i64 num, .string name, .string maker, .int .i64 year, .slice A words.length c] 39))
  have H := Lib.hid (h.below (hb0.out.mono hB))
  have HB1 := Lib.hid (fun wx => between_any num 1 1000000 wx)
  have HB2 := Lib.hid (fun wx => IsNameI_any name wx l1)
  have HB3 := Lib.hid (fun wx => IsNameI_any maker wx l2)
  have HB4 := Lib.hid (fun wx => between_any year 1000 3000 wx)
  clear h l4
  cases g1 : inB num 1 1000000 with
  | false =>
    have hfin := Lib.hid (entOk_1 (x := ⟨num, name, maker, year, words⟩) g1)
    rw [g1] at HB1
    clear g1
    go_enter Try.func26, Try.ntmps26
    go_wp2_with fail
    refine (HB1.out _).mono ?_; rintro e w1 ⟨rfl, rfl⟩
    go_wp2_with fail
    go_ret
    rw [hfin.out]; exact ⟨rfl, hb0.out⟩
  | true =>
    rw [g1] at HB1
    cases g2 : isNm name.data.toList with
    | false =>
      have hfin := Lib.hid (entOk_2 (x := ⟨num, name, maker, year, words⟩) g2)
      rw [g2] at HB2
      clear g1 g2
      go_enter Try.func26, Try.ntmps26
      go_wp2_with fail
      refine (HB1.out _).mono ?_; rintro e w1 ⟨rfl, rfl⟩
      go_wp2_with fail
      refine (HB2.out _).mono ?_; rintro e w1 ⟨rfl, rfl⟩
      go_wp2_with fail
      go_ret
      rw [hfin.out]; exact ⟨rfl, hb0.out⟩
    | true =>
      rw [g2] at HB2
      cases g3 : isNm maker.data.toList with
      | false =>
        have hfin := Lib.hid (entOk_3 (x := ⟨num, name, maker, year, words⟩) g3)
        rw [g3] at HB3
        clear g1 g2 g3
        go_enter Try.func26, Try.ntmps26
        go_wp2_with fail
        refine (HB1.out _).mono ?_; rintro e w1 ⟨rfl, rfl⟩
        go_wp2_with fail
        refine (HB2.out _).mono ?_; rintro e w1 ⟨rfl, rfl⟩
        go_wp2_with fail
        refine (HB3.out _).mono ?_; rintro e w1 ⟨rfl, rfl⟩
        go_wp2_with fail
        go_ret
        rw [hfin.out]; exact ⟨rfl, hb0.out⟩
      | true =>
        rw [g3] at HB3
        cases g4 : inB year 1000 3000 with
        | false =>
          have hfin := Lib.hid (entOk_4 (x := ⟨num, name, maker, year, words⟩) g4)
          rw [g4] at HB4
          clear g1 g2 g3 g4
          go_enter Try.func26, Try.ntmps26
          go_wp2_with fail
          refine (HB1.out _).mono ?_; rintro e w1 ⟨rfl, rfl⟩
          go_wp2_with fail
          refine (HB2.out _).mono ?_; rintro e w1 ⟨rfl, rfl⟩
          go_wp2_with fail
          refine (HB3.out _).mono ?_; rintro e w1 ⟨rfl, rfl⟩
          go_wp2_with fail
          refine (HB4.out _).mono ?_; rintro e w1 ⟨rfl, rfl⟩
          go_wp2_with fail
          go_ret
          rw [hfin.out]; exact ⟨rfl, hb0.out⟩
        | true =>
          rw [g4] at HB4
          by_cases g5 : 8 < words.length
          · have hfin := Lib.hid (entOk_5 (x := ⟨num, name, maker, year, words⟩) g5)
            have g5' : (8 : Int) < (words.length : Int) := by omega
            clear g1 g2 g3 g4
            go_enter Try.func26, Try.ntmps26
            go_wp2_with fail
            refine (HB1.out _).mono ?_; rintro e w1 ⟨rfl, rfl⟩
            go_wp2_with fail
            refine (HB2.out _).mono ?_; rintro e w1 ⟨rfl, rfl⟩
            go_wp2_with fail
            refine (HB3.out _).mono ?_; rintro e w1 ⟨rfl, rfl⟩
            go_wp2_with fail
            refine (HB4.out _).mono ?_; rintro e w1 ⟨rfl, rfl⟩
            go_wp2_with fail
            go_ret
            rw [hfin.out]; exact ⟨rfl, hb0.out⟩
          · have hfin := Lib.hid (entOk_6 (x := ⟨num, name, maker, year, words⟩) g1 g2 g3 g4 (by show words.length ≤ 8; omega))
            (try dsimp only at hfin)
            have g5' : (words.length : Int) ≤ 8 := by omega
            clear g1 g2 g3 g4
            go_enter Try.func26, Try.ntmps26
            go_wp2_with fail
            refine (HB1.out _).mono ?_; rintro e w1 ⟨rfl, rfl⟩
            go_wp2_with fail
            refine (HB2.out _).mono ?_; rintro e w1 ⟨rfl, rfl⟩
            go_wp2_with fail
            refine (HB3.out _).mono ?_; rintro e w1 ⟨rfl, rfl⟩
            go_wp2_with fail
            refine (HB4.out _).mono ?_; rintro e w1 ⟨rfl, rfl⟩
            go_wp2_with fail
            go_loop [36] (fun i => ∃ k : Nat, k ≤ words.length ∧ chk k (wordOk words) = true ∧ i = .int .i64 k) (fun i => words.length - (intOf i).toNat)
            case atStart => exact ⟨0, Nat.zero_le _, rfl, rfl⟩
            case round =>
              obtain ⟨k, hk, hall, rfl⟩ := hrel
              have Hall := Lib.hid hall; clear hall
              by_cases hlt : k < words.length
              · obtain ⟨_, b1, o1, hA, hx⟩ := rd_at H.out k hlt
                have HA := Lib.hid hA
                have hlt' : (k : Int) < (words.length : Int) := by omega
                have Hbad := Lib.hid (fun h => hfin.out.trans (chk_bad (f := wordOk words) k hlt h))
                have Hst := Lib.hid (fun h => chk_step (f := wordOk words) (k := k) Hall.out h)
                have Hn := Lib.hid (fun h => wordOk_nm words k hlt h)
                have HN := Lib.hid (fun wx => IsNameI_any words[k] wx (hsz.out _ (List.getElem_mem hlt)))
                cases k with
                | zero =>
                  have H0 := Lib.hid (fun h => wordOk_0 words hlt h)
                  generalize words[0] = z at *
                  subst hA
                  rw [Nat.add_zero] at hx
                  clear HA
                  cases g : isNm z.data.toList with
                  | false =>
                    have hf := Lib.hid (Hbad.out (Hn.out g))
                    rw [g] at HN
                    clear Hbad Hst Hn g H0
                    go_wp2_with fail
                    refine (HN.out _).mono ?_; rintro e w1 ⟨rfl, rfl⟩
                    go_wp2_with fail
                    go_ret
                    rw [hf.out]; exact ⟨rfl, hb0.out⟩
                  | true =>
                    have hst := Lib.hid (Hst.out (H0.out g))
                    rw [g] at HN
                    clear Hbad Hst Hn g H0
                    go_wp2_with fail
                    refine (HN.out _).mono ?_; rintro e w1 ⟨rfl, rfl⟩
                    go_wp2_with fail
                    go_round
                    case rel => exact ⟨1, by omega, hst.out, by go_num⟩
                    case measure => simp [intOf]; omega
                | succ m =>
                  obtain ⟨_, b1', o1', hA', hy⟩ := rd_at H.out m (by omega)
                  rw [HA.out] at hA'
                  obtain ⟨rfl, rfl⟩ : b1 = b1' ∧ o1 = o1' := by simpa using hA'
                  have H0 := Lib.hid (fun h => wordOk_s words m hlt h)
                  generalize words[m + 1] = z at *
                  generalize words[m] = y at *
                  subst hA
                  clear hA'
                  cases g : isNm z.data.toList with
                  | false =>
                    have hf := Lib.hid (Hbad.out (Hn.out g))
                    rw [g] at HN
                    clear Hbad Hst Hn g H0
                    go_wp2_with fail
                    refine (HN.out _).mono ?_; rintro e w1 ⟨rfl, rfl⟩
                    go_wp2_with fail
                    go_ret
                    rw [hf.out]; exact ⟨rfl, hb0.out⟩
                  | true =>
                    rw [g] at HN
                    have h1 := H0.out g
                    have hm1 : IntKind.i64.wrap (((m + 1 : Nat) : Int) - 1) = (m : Int) := by rw [IntWalk.i64_in _ (by omega)]; omega
                    have hm2 : ((m + 1 : Nat) : Int) - 1 = (m : Int) := by omega
                    have hpos : (0 : Int) < ((m + 1 : Nat) : Int) := by omega
                    cases gl : lessS y z with
                    | true =>
                      have hst := Lib.hid (Hst.out (h1.trans gl))
                      obtain ⟨t1, t2, t3, t4⟩ := less_yes gl
                      clear Hbad Hst Hn g H0 h1 gl
                      go_wp2_with fail
                      refine (HN.out _).mono ?_; rintro e w1 ⟨rfl, rfl⟩
                      go_wp2_with fail
                      clear hm1 hm2
                      go_round
                      case rel => exact ⟨m + 1 + 1, by omega, hst.out, by go_num⟩
                      case measure => simp [intOf]; omega
                    | false =>
                      have hf := Lib.hid (Hbad.out (h1.trans gl))
                      obtain ⟨t1, t2⟩ := less_no gl
                      clear Hbad Hst Hn g H0 h1 gl
                      go_wp2_with fail
                      refine (HN.out _).mono ?_; rintro e w1 ⟨rfl, rfl⟩
                      go_wp2_with fail
                      clear hm1 hm2
                      go_ret
                      rw [hf.out]; exact ⟨rfl, hb0.out⟩
              · have hf := Lib.hid (show entOk ⟨num, name, maker, year, words⟩ = true by rw [hfin.out, show words.length = k by omega]; exact Hall.out)
                have hlt' : (words.length : Int) ≤ (k : Int) := by omega
                go_wp2_with fail
                go_ret
                rw [hf.out]; exact ⟨rfl, hb0.out⟩
end Go.Proofs.Ytmlnaedeghpbbaa
/- Entries, part 7: a valid entry, the reference's side. -/
namespace Go.Proofs.Ytmlnaedeghpbbaa
open Go.RowKit Go.Joins

theorem flipC {P : Program} {f : FuncId} {args : Array Value} {w : World} {v : Value} (h : Calls P f args w fun e w' => e = .returned v ∧ w = w') : Calls P f args w fun e w' => e = .returned v ∧ w' = w :=
  h.mono fun _ _ ⟨a, b⟩ => ⟨a, b.symm⟩

set_option maxRecDepth 100000 in
set_option maxHeartbeats 3200000 in
theorem l25One_any (B b o : Nat) (x : Ent) (A : Option Addr) (c : Nat) (w : World) (h : EntAt w B b o x A c) (hsm : smE x) :
    Calls Try.prog 24 #[.pointer (some ⟨b, o, none⟩)] w fun e w' => e = .returned (.bool (entOk x)) ∧ ∃ n, w' = w.drewN n := by
  obtain ⟨num, name, maker, year, words⟩ := x
  obtain ⟨l1, l2, l3, l4⟩ := hsm
  have HE := Lib.hid h
  obtain ⟨hbB, e0, e1, e2, e3, e4, ew⟩ := h
  dsimp only at *
  have hsz := Lib.hid l4
  have H := Lib.hid ew
  have HB1 := Lib.hid (fun wx => l00In_any num 1 1000000 wx)
  have HB2 := Lib.hid (fun wx => IsNameS_any name wx l1)
  have HB3 := Lib.hid (fun wx => IsNameS_any maker wx l2)
  have HB4 := Lib.hid (fun wx => l00In_any year 1000 3000 wx)
  clear ew l4
  cases g1 : inB num 1 1000000 with
  | false =>
    have hfin := Lib.hid (entOk_1 (x := ⟨num, name, maker, year, words⟩) g1)
    rw [g1] at HB1
    clear g1
    go_enter Try.func24, Try.ntmps24
    go_wp2_with fail
    refine (HB1.out _).mono ?_; rintro e w1 ⟨rfl, rfl⟩
    go_wp2_with fail
    go_ret
    rw [hfin.out]; exact ⟨rfl, 0, rfl⟩
  | true =>
    rw [g1] at HB1
    cases g2 : isNm name.data.toList with
    | false =>
      have hfin := Lib.hid (entOk_2 (x := ⟨num, name, maker, year, words⟩) g2)
      rw [g2] at HB2
      clear g1 g2
      go_enter Try.func24, Try.ntmps24
      go_wp2_with fail
      refine (HB1.out _).mono ?_; rintro e w1 ⟨rfl, rfl⟩
      go_wp2_with fail
      refine (HB2.out _).mono ?_; rintro e w1 ⟨rfl, rfl⟩
      go_wp2_with fail
      go_ret
      rw [hfin.out]; exact ⟨rfl, 0, rfl⟩
    | true =>
      rw [g2] at HB2
      cases g3 : isNm maker.data.toList with
      | false =>
        have hfin := Lib.hid (entOk_3 (x := ⟨num, name, maker, year, words⟩) g3)
        rw [g3] at HB3
        clear g1 g2 g3
        go_enter Try.func24, Try.ntmps24
        go_wp2_with fail
        refine (HB1.out _).mono ?_; rintro e w1 ⟨rfl, rfl⟩
        go_wp2_with fail
        refine (HB2.out _).mono ?_; rintro e w1 ⟨rfl, rfl⟩
        go_wp2_with fail
        refine (HB3.out _).mono ?_; rintro e w1 ⟨rfl, rfl⟩
        go_wp2_with fail
        go_ret
        rw [hfin.out]; exact ⟨rfl, 0, rfl⟩
      | true =>
        rw [g3] at HB3
        cases g4 : inB year 1000 3000 with
        | false =>
          have hfin := Lib.hid (entOk_4 (x := ⟨num, name, maker, year, words⟩) g4)
          rw [g4] at HB4
          clear g1 g2 g3 g4
          go_enter Try.func24, Try.ntmps24
          go_wp2_with fail
          refine (HB1.out _).mono ?_; rintro e w1 ⟨rfl, rfl⟩
          go_wp2_with fail
          refine (HB2.out _).mono ?_; rintro e w1 ⟨rfl, rfl⟩
          go_wp2_with fail
          refine (HB3.out _).mono ?_; rintro e w1 ⟨rfl, rfl⟩
          go_wp2_with fail
          refine (HB4.out _).mono ?_; rintro e w1 ⟨rfl, rfl⟩
          go_wp2_with fail
          go_ret
          rw [hfin.out]; exact ⟨rfl, 0, rfl⟩
        | true =>
          rw [g4] at HB4
          by_cases g5 : 8 < words.length
          · have hfin := Lib.hid (entOk_5 (x := ⟨num, name, maker, year, words⟩) g5)
            have g5' : (8 : Int) < (words.length : Int) := by omega
            clear g1 g2 g3 g4
            go_enter Try.func24, Try.ntmps24
            go_wp2_with fail
            refine (HB1.out _).mono ?_; rintro e w1 ⟨rfl, rfl⟩
            go_wp2_with fail
            refine (HB2.out _).mono ?_; rintro e w1 ⟨rfl, rfl⟩
            go_wp2_with fail
            refine (HB3.out _).mono ?_; rintro e w1 ⟨rfl, rfl⟩
            go_wp2_with fail
            refine (HB4.out _).mono ?_; rintro e w1 ⟨rfl, rfl⟩
            go_wp2_with fail
            go_ret
            rw [hfin.out]; exact ⟨rfl, 0, rfl⟩
          · have hfin := Lib.hid (entOk_6 (x := ⟨num, name, maker, year, words⟩) g1 g2 g3 g4 (by show words.length ≤ 8; omega))
            (try dsimp only at hfin)
            have g5' : (words.length : Int) ≤ 8 := by omega
            clear g1 g2 g3 g4
            go_enter Try.func24, Try.ntmps24
            go_wp2_with fail
            refine (HB1.out _).mono ?_; rintro e w1 ⟨rfl, rfl⟩
            go_wp2_with fail
            refine (HB2.out _).mono ?_; rintro e w1 ⟨rfl, rfl⟩
            go_wp2_with fail
            refine (HB3.out _).mono ?_; rintro e w1 ⟨rfl, rfl⟩
            go_wp2_with fail
            refine (HB4.out _).mono ?_; rintro e w1 ⟨rfl, rfl⟩
            go_wp2_with fail
            go_loopw [3] (fun i wr => ∃ k m : Nat, k ≤ words.length ∧ chk k (wordOk words) = true ∧ i = .int .i64 k ∧ wr = w.drewN m) (fun i _ => words.length - (intOf i).toNat)
            case atStart => exact ⟨0, 0, Nat.zero_le _, rfl, rfl, rfl⟩
            case round =>
              obtain ⟨k, m0, hk, hall, rfl, hwr⟩ := hrel
              have Hw := Lib.hid (fun n => (show wr.drewN n = w.drewN (m0 + n) by rw [hwr, World.drewN_drewN]))
              have Hw0 := Lib.hid hwr
              have Hall := Lib.hid hall; clear hall
              have Hr : Hid (Rd wr B (.slice A words.length c) words.length 1 (strs words)) := Lib.hid (by rw [hwr]; exact H.out.drewN m0)
              obtain ⟨_, d0, d1, d2, d3, d4, _⟩ := (show EntAt wr B b o ⟨num, name, maker, year, words⟩ A c by rw [hwr]; exact HE.out.drewN m0)
              (try dsimp only at d0 d1 d2 d3 d4)
              clear hwr
              by_cases hlt : k < words.length
              · obtain ⟨_, b1, o1, hA, hx⟩ := rd_at Hr.out k hlt
                have HA := Lib.hid hA
                have hlt' : (k : Int) < (words.length : Int) := by omega
                have Hbad := Lib.hid (fun h => hfin.out.trans (chk_bad (f := wordOk words) k hlt h))
                have Hst := Lib.hid (fun h => chk_step (f := wordOk words) (k := k) Hall.out h)
                have Hn := Lib.hid (fun h => wordOk_nm words k hlt h)
                have HN := Lib.hid (fun wx => flipC (IsNameS_any words[k] wx (hsz.out _ (List.getElem_mem hlt))))
                cases k with
                | zero =>
                  have H0 := Lib.hid (fun h => wordOk_0 words hlt h)
                  generalize words[0] = z at *
                  subst hA
                  rw [Nat.add_zero] at hx
                  clear HA
                  cases g : isNm z.data.toList with
                  | false =>
                    have hf := Lib.hid (Hbad.out (Hn.out g))
                    rw [g] at HN
                    clear Hbad Hst Hn g H0
                    go_wp2_with fail
                    go_quiet ((go_at_call 33; exact Calls.quiet_of_same (HN.out _)))
                    go_wp2_with fail
                    go_ret
                    rw [hf.out]; exact ⟨rfl, _, Hw.out _⟩
                  | true =>
                    have hst := Lib.hid (Hst.out (H0.out g))
                    rw [g] at HN
                    clear Hbad Hst Hn g H0
                    go_wp2_with fail
                    go_quiet ((go_at_call 33; exact Calls.quiet_of_same (HN.out _)))
                    go_wp2_with fail
                    go_roundw
                    case rel => exact ⟨1, _, by omega, hst.out, by go_num, Hw.out _⟩
                    case measure => simp [intOf]; omega
                | succ m =>
                  obtain ⟨_, b1', o1', hA', hy⟩ := rd_at Hr.out m (by omega)
                  rw [HA.out] at hA'
                  obtain ⟨rfl, rfl⟩ : b1 = b1' ∧ o1 = o1' := by simpa using hA'
                  have H0 := Lib.hid (fun h => wordOk_s words m hlt h)
                  generalize words[m + 1] = z at *
                  generalize words[m] = y at *
                  subst hA
                  clear hA'
                  cases g : isNm z.data.toList with
                  | false =>
                    have hf := Lib.hid (Hbad.out (Hn.out g))
                    rw [g] at HN
                    clear Hbad Hst Hn g H0
                    go_wp2_with fail
                    go_quiet ((go_at_call 33; exact Calls.quiet_of_same (HN.out _)))
                    go_wp2_with fail
                    go_ret
                    rw [hf.out]; exact ⟨rfl, _, Hw.out _⟩
                  | true =>
                    rw [g] at HN
                    have h1 := H0.out g
                    have hpos : (0 : Int) < ((m + 1 : Nat) : Int) := by omega
                    cases gl : lessS y z with
                    | true =>
                      have hst := Lib.hid (Hst.out (h1.trans gl))
                      obtain ⟨t1, t2, t3, t4⟩ := less_yes gl
                      clear Hbad Hst Hn g H0 h1 gl
                      have hm1 : IntKind.i64.wrap (((m + 1 : Nat) : Int) - 1) = (m : Int) := by rw [IntWalk.i64_in _ (by omega)]; omega
                      have hm2 : ((m + 1 : Nat) : Int) - 1 = (m : Int) := by omega
                      go_wp2_with fail
                      go_quiet ((go_at_call 33; exact Calls.quiet_of_same (HN.out _)))
                      clear hm1 hm2
                      go_wp2_with fail
                      go_roundw
                      case rel => exact ⟨m + 1 + 1, _, by omega, hst.out, by go_num, Hw.out _⟩
                      case measure => simp [intOf]; omega
                    | false =>
                      have hf := Lib.hid (Hbad.out (h1.trans gl))
                      obtain ⟨t1, t2⟩ := less_no gl
                      clear Hbad Hst Hn g H0 h1 gl
                      have hm1 : IntKind.i64.wrap (((m + 1 : Nat) : Int) - 1) = (m : Int) := by rw [IntWalk.i64_in _ (by omega)]; omega
                      have hm2 : ((m + 1 : Nat) : Int) - 1 = (m : Int) := by omega
                      go_wp2_with fail
                      go_quiet ((go_at_call 33; exact Calls.quiet_of_same (HN.out _)))
                      clear hm1 hm2
                      go_wp2_with fail
                      go_ret
                      rw [hf.out]; exact ⟨rfl, _, Hw.out _⟩
              · have hf := Lib.hid (show entOk ⟨num, name, maker, year, words⟩ = true by rw [hfin.out, show words.length = k by omega]; exact Hall.out)
                have hlt' : (words.length : Int) ≤ (k : Int) := by omega
                go_wp2_with fail
                go_ret
                rw [hf.out]; exact ⟨rfl, _, Hw0.out⟩
end Go.Proofs.Ytmlnaedeghpbbaa
/- Append of a row that is read to a row of the call's own. No program is named here. -/
namespace Go.Proofs.Ytmlnaedeghpbbaa
open Go.RowKit

section
variable {P : Program}
theorem wpList_apr {w : World} {ops : Array Oper} {rest : List Oper} {o : Oper} {a : Act} {Q : Exit → Act → World → Prop} (t e : TypeId) (z : Value) (size bytes : Nat)
    (ht : P.underlying t = some (.slice e)) (hinfo : (P.info? e).map (fun i => (i.zero, i.size, i.bytes)) = some (some z, size, bytes)) (hzs : z.cells.size = size) (hsz : 0 < size)
    (s x : Operand) (hgd : o.guard = none) (ho : o.op = .call { callee := .builtin .append, args := #[s, x], argTypes := #[t, t] })
    (base : Nat) (v : Value) (n : Nat) (xs : List Value) (hs : a.eval s = v) (hown : w.ownsRow base e size v n xs)
    (b off m c : Nat) (cs : List Value) (hx : a.eval x = .slice (some ⟨b, off, none⟩) m c) (hl : cs.length = m * size) (hc : ∀ (i : Nat) (u : Value), cs[i]? = some u → w.cell? ⟨b, off + i, none⟩ = some u) (h1 : ∀ u ∈ cs, u.oneCell' = true)
    (h63 : n + m ≤ maxLen) (hbytes : (n + m) * bytes ≤ 140737488355328) (hbase : base ≤ w.heap.size)
    (h : ∀ v' w', w'.ownsRow base e size v' (n + m) (xs ++ cs) → w.grownBy w' v.ownBlock → wpList P ops Q rest (a.put o.dst v') w') :
    wpList P ops Q (o :: rest) a w := by
  obtain ⟨i, hi, hz, h2, h3⟩ := info_parts hinfo
  refine wpList_append_own _ hgd s x t ho base e i z size bytes ht hi hz h2 h3 hzs hsz v n xs hs hown ⟨b, off, none⟩ m c cs hx hl (fun j u hu => ?_) h1 h63 hbytes hbase ?_
  · have hadd : (⟨b, off, none⟩ : Addr).add j = ⟨b, off + j, none⟩ := by unfold Addr.add; split <;> simp_all
    rw [hadd]; exact hc j u hu
  · intro v' w' ho' hg' _
    exact h v' w' ho' hg'
end
end Go.Proofs.Ytmlnaedeghpbbaa
/- A region that draws its order, step by step: an operation that is taken first, its slot given by number. No program is named here. -/
namespace Go.Proofs.Ytmlnaedeghpbbaa
open Go.RowKit

section
variable {P : Program} {ops : Array Oper} {Q : Exit → Act → World → Prop} {md : Region.Mode} {S : World → Prop}
theorem take_d {i : Nat} {oi : Oper} {d : Option Nat} {v : Value} {fuel : Nat} {listed : Array Bool} {a : Act} {w : World} (hi : ops[i]? = some oi) (hd : oi.dst = d)
    (hs : Region.noSelect ops = true) (hf : Region.free md ops listed i = true) (hr : (Region.ready md ops listed).contains i = true)
    (hQ : ∀ c a w, Q (.panic c) (a.put d v) w → Q (.panic c) a w) (hy : YieldsIf P ops S oi v a) (hS : S w)
    (h : wpAnyH P md ops Q S fuel (listed.setIfInBounds i true) (a.put d v) w) : wpAnyH P md ops Q S (fuel + 1) listed a w := by
  subst hd
  exact wpAnyH_take hi hs hf hr hQ hy hS h
theorem call_d {i : Nat} {o : Oper} {d : Option Nat} {fuel : Nat} {listed : Array Bool} {a : Act} {w : World} (ho : ops[i]? = some o) (hd : o.dst = d) (hr : Region.ready md ops listed = [i])
    (h : ∀ K' : Act → World → Prop, Shut (∀ a w, S w → (S w → wpAnyH P md ops Q S fuel (listed.setIfInBounds i true) a w) → K' a w) → if Region.wanted o (yielded ops a.tmps) = true then Oper.wp P o a w K' Q else K' (a.put d undef) w) :
    wpAnyH P md ops Q S (fuel + 1) listed a w := by
  subst hd
  exact wpAnyH_ready hr (by simp) (AllReadyH.cons ho h AllReadyH.nil)
end
end Go.Proofs.Ytmlnaedeghpbbaa
