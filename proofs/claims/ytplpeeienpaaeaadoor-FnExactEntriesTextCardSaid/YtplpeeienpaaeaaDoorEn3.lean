/- Entries, part 3: equality and room of entries; the reading of an argument. -/
import Derived.Test.YtplpeeienpaaeaaDoorEn2
import Derived.SliceStrings
namespace Go.Proofs.YtplpeeienpaaeaaDoor
open Go.RowKit Go.Joins

theorem eqStringS_same (B1 B2 : Nat) (v1 v2 : Value) (xs : List ByteArray) (w : World) (h1 : Rd w B1 v1 xs.length 1 (strs xs)) (h2 : Rd w B2 v2 xs.length 1 (strs xs)) (hx : xs.length ≤ 4611686018427387904) :
    Calls Tryd.prog 20 #[v1, v2] w fun e w' => e = .returned (.bool true) ∧ ∃ n, w' = w.drewN n := by
  refine (eqStringS_any B1 B2 v1 v2 xs xs w h1 h2 hx).mono ?_
  rintro e w' ⟨rfl, h⟩
  exact ⟨by simp, h⟩

/-- an entry as a value -/
abbrev aggE (x : Ent) (A : Option Addr) (c : Nat) : Value := .agg #[.int .i64 x.num, .string x.name, .string x.maker, .int .i64 x.year, .slice A x.words.length c]

set_option maxRecDepth 100000 in
set_option maxHeartbeats 800000 in
theorem eqEntry_same (B1 B2 : Nat) (x : Ent) (A1 A2 : Option Addr) (c1 c2 : Nat) (w : World) (h1 : Rd w B1 (.slice A1 x.words.length c1) x.words.length 1 (strs x.words)) (h2 : Rd w B2 (.slice A2 x.words.length c2) x.words.length 1 (strs x.words)) (hB1 : B1 ≤ w.heap.size) (hB2 : B2 ≤ w.heap.size) (hl : x.words.length ≤ 1048576) :
    Calls Tryd.prog 37 #[aggE x A1 c1, aggE x A2 c2] w fun e w' => e = .returned (.bool true) ∧ Below w.heap.size w w' := by
  obtain ⟨num, name, maker, year, words⟩ := x
  dsimp only at *
  have Hb := fun o1 o2 => Lib.hid (((Below.refl w.heap.size w).alloc (Nat.le_refl _) o1).alloc (by simp) o2)
  have HE := Lib.hid (fun wx hx hy => eqStringS_same B1 B2 (.slice A1 words.length c1) (.slice A2 words.length c2) words wx hx hy (by omega))
  have H1 := Lib.hid h1
  have H2 := Lib.hid h2
  clear h1 h2
  go_enter Tryd.func37, Tryd.ntmps37
  go_wp2_with fail
  refine (HE.out _ (H1.out.below ((Hb _ _).out.mono hB1)) (H2.out.below ((Hb _ _).out.mono hB2))).mono ?_; rintro e w1 ⟨rfl, n, rfl⟩
  have hfin := Lib.hid (below_drewN (Hb (.cells #[.int .i64 num, .string name, .string maker, .int .i64 year, .slice A1 words.length c1] 60) (.cells #[.int .i64 num, .string name, .string maker, .int .i64 year, .slice A2 words.length c2] 60)).out n)
  clear Hb
  go_wp2_with fail
  go_ret
  exact ⟨rfl, hfin.out⟩

/-- the ten cells of two entries -/
theorem EntAt.ten {w : World} {B1 B2 b1 o1 b2 o2 c1 c2 : Nat} {x y : Ent} {A1 A2 : Option Addr} (h : EntAt w B1 b1 o1 x A1 c1) (k : EntAt w B2 b2 o2 y A2 c2) :
    w.cell? ⟨b1, o1, none⟩ = some (.int .i64 x.num) ∧ w.cell? ⟨b1, o1 + 1, none⟩ = some (.string x.name) ∧ w.cell? ⟨b1, o1 + 2, none⟩ = some (.string x.maker) ∧ w.cell? ⟨b1, o1 + 3, none⟩ = some (.int .i64 x.year) ∧ w.cell? ⟨b1, o1 + 4, none⟩ = some (.slice A1 x.words.length c1) ∧
    w.cell? ⟨b2, o2, none⟩ = some (.int .i64 y.num) ∧ w.cell? ⟨b2, o2 + 1, none⟩ = some (.string y.name) ∧ w.cell? ⟨b2, o2 + 2, none⟩ = some (.string y.maker) ∧ w.cell? ⟨b2, o2 + 3, none⟩ = some (.int .i64 y.year) ∧ w.cell? ⟨b2, o2 + 4, none⟩ = some (.slice A2 y.words.length c2) :=
  ⟨h.c0, h.c1, h.c2, h.c3, h.c4, k.c0, k.c1, k.c2, k.c3, k.c4⟩

set_option maxRecDepth 100000 in
set_option maxHeartbeats 1600000 in
theorem eqEntryS_same (B1 B2 : Nat) (v1 v2 : Value) (xs : List Ent) (w : World) (h1 : RdE w B1 v1 xs) (h2 : RdE w B2 v2 xs) (hB1 : B1 ≤ w.heap.size) (hB2 : B2 ≤ w.heap.size) (hl : xs.length ≤ 1048576) (hws : ∀ x ∈ xs, x.words.length ≤ 1048576) :
    Calls Tryd.prog 15 #[v1, v2] w fun e w' => e = .returned (.bool true) ∧ Below w.heap.size w w' := by
  have H1 := Lib.hid h1
  have H2 := Lib.hid h2
  have Hws := Lib.hid hws
  obtain ⟨A1, c1, rfl⟩ := h1.slice
  obtain ⟨A2, c2, rfl⟩ := h2.slice
  clear h1 h2 hws
  have hb0 := Below.refl w.heap.size w
  go_enter Tryd.func15, Tryd.ntmps15
  go_wp2_with fail
  go_loopw [5] (fun i wr => ∃ k : Nat, k ≤ xs.length ∧ i = .int .i64 k ∧ Below w.heap.size w wr) (fun i _ => xs.length - (intOf i).toNat)
  case atStart => exact ⟨0, Nat.zero_le _, rfl, hb0⟩
  case round =>
    obtain ⟨k, hk, rfl, hbl⟩ := hrel
    by_cases hlt : k < xs.length
    · obtain ⟨b1, o1, A3, c3, hA1, hE1⟩ := (H1.out.below (hbl.mono hB1)).at k hlt
      obtain ⟨b2, o2, A4, c4, hA2, hE2⟩ := (H2.out.below (hbl.mono hB2)).at k hlt
      subst hA1 hA2
      have hwl := Hws.out xs[k] (List.getElem_mem hlt)
      generalize xs[k] = x at *
      obtain ⟨num, name, maker, year, words⟩ := x
      have HE1 := Lib.hid hE1
      have HE2 := Lib.hid hE2
      obtain ⟨hbB1, e0, e1, e2, e3, e4, _⟩ := hE1
      obtain ⟨hbB2, f0, f1, f2, f3, f4, _⟩ := hE2
      dsimp only at e0 e1 e2 e3 e4 f0 f1 f2 f3 f4 hwl
      have hlt' : (k : Int) < (xs.length : Int) := by omega
      have hacc : Below w.heap.size w wr.drew := hbl.drew
      have hac2 : Below wr.heap.size wr wr.drew := (Below.refl _ _).drew
      have hz1 : B1 ≤ wr.heap.size := Nat.le_trans hB1 hbl.size
      have hz2 : B2 ≤ wr.heap.size := Nat.le_trans hB2 hbl.size
      clear hbl
      go_wp2_with fail
      go_region_held3 (fun w' => w'.cell? ⟨b1, o1 + k * 5, none⟩ = some (.int .i64 num) ∧ w'.cell? ⟨b1, o1 + k * 5 + 1, none⟩ = some (.string name) ∧ w'.cell? ⟨b1, o1 + k * 5 + 2, none⟩ = some (.string maker) ∧ w'.cell? ⟨b1, o1 + k * 5 + 3, none⟩ = some (.int .i64 year) ∧ w'.cell? ⟨b1, o1 + k * 5 + 4, none⟩ = some (.slice A3 words.length c3) ∧
          w'.cell? ⟨b2, o2 + k * 5, none⟩ = some (.int .i64 num) ∧ w'.cell? ⟨b2, o2 + k * 5 + 1, none⟩ = some (.string name) ∧ w'.cell? ⟨b2, o2 + k * 5 + 2, none⟩ = some (.string maker) ∧ w'.cell? ⟨b2, o2 + k * 5 + 3, none⟩ = some (.int .i64 year) ∧ w'.cell? ⟨b2, o2 + k * 5 + 4, none⟩ = some (.slice A4 words.length c4))
        (first | go_keep | assumption)
        ((go_at_call 37; ((with_reducible refine (eqEntry_same B1 B2 ⟨num, name, maker, year, words⟩ A3 A4 c3 c4 _ (HE1.out.words.below (hac2.mono hz1)) (HE2.out.words.below (hac2.mono hz2)) (Nat.le_trans hz1 hac2.size) (Nat.le_trans hz2 hac2.size) hwl).mono ?_)); rintro e wq ⟨rfl, hbq⟩; have hSq := (HE1.out.below ((hac2.trans (hbq.mono hac2.size)).mono hz1)).ten (HE2.out.below ((hac2.trans (hbq.mono hac2.size)).mono hz2)); dsimp only at hSq; have hacc' := hacc.trans (hbq.mono hacc.size); clear hacc; have hacc := hacc'; clear hacc'))
      go_wp2_with fail
      go_roundw
      case rel => exact ⟨k + 1, by omega, by go_num, hacc⟩
      case measure => simp [intOf]; omega
    · have hlt' : (xs.length : Int) ≤ (k : Int) := by omega
      go_wp2_with fail
      go_ret
      exact ⟨rfl, hbl⟩

/-- all that an argument's entries are -/
def lenE (x : Ent) : Prop := x.name.size ≤ maxLen ∧ x.maker.size ≤ maxLen ∧ x.words.length ≤ maxLen ∧ ∀ z ∈ x.words, z.size ≤ maxLen
/-- small enough -/
def smE (x : Ent) : Prop := x.name.size ≤ 1048576 ∧ x.maker.size ≤ 1048576 ∧ x.words.length ≤ 1048576 ∧ ∀ z ∈ x.words, z.size ≤ 1048576
def SzE (x : Ent) (left : Int) (w : World) (e : Ending) (w' : World) : Prop := ∃ r : Int, e = .returned (.int .i64 r) ∧ r ≤ left ∧ (0 ≤ r → smE x) ∧ Below w.heap.size w w'

set_option maxRecDepth 100000 in
set_option maxHeartbeats 800000 in
theorem szEntry_any (B : Nat) (x : Ent) (A : Option Addr) (c : Nat) (left : Int) (w : World) (h : Rd w B (.slice A x.words.length c) x.words.length 1 (strs x.words)) (hB : B ≤ w.heap.size) (hx : lenE x) (q0 : 0 ≤ left) (q1 : left ≤ 1048576) :
    Calls Tryd.prog 32 #[aggE x A c, .int .i64 left] w (SzE x left w) := by
  obtain ⟨num, name, maker, year, words⟩ := x
  obtain ⟨l1, l2, l3, l4⟩ := hx
  dsimp only at *
  have hb := Lib.hid ((Below.refl w.heap.size w).alloc (Nat.le_refl _) (.cells #[.int .i64 num, .string name, .string maker, .int .i64 year, .slice A words.length c] 58))
  have HZ := Lib.hid (fun lf wx hx q0 q1 => szStringS_any B (.slice A words.length c) words lf wx hx ⟨l3, l4⟩ q0 q1)
  have H := Lib.hid (h.below (hb.out.mono hB))
  clear h l4
  simp only [maxLen] at l1 l2 l3
  by_cases n1 : left - (name.size : Int) < 0
  · go_enter Tryd.func32, Tryd.ntmps32
    go_wp2_with fail
    go_ret
    exact ⟨_, rfl, by omega, by omega, hb.out⟩
  · by_cases n2 : left - (name.size : Int) - (maker.size : Int) < 0
    · go_enter Tryd.func32, Tryd.ntmps32
      go_wp2_with fail
      go_ret
      exact ⟨_, rfl, by omega, by omega, hb.out⟩
    · have HZ2 := Lib.hid (HZ.out (left - (name.size : Int) - (maker.size : Int)) _ H.out (by omega) (by omega))
      go_enter Tryd.func32, Tryd.ntmps32
      go_wp2_with fail
      refine HZ2.out.mono ?_; rintro e w1 ⟨⟨r, rfl, hr1, hr2⟩, rfl⟩
      have Hr2 := Lib.hid hr2; clear hr2
      by_cases n3 : r < 0
      · go_wp2_with fail
        go_ret
        exact ⟨_, rfl, by omega, by omega, hb.out⟩
      · go_wp2_with fail
        go_ret
        have h5 := Hr2.out (by omega)
        exact ⟨_, rfl, by omega, fun _ => ⟨by show name.size ≤ _; omega, by show maker.size ≤ _; omega, h5.1, h5.2⟩, hb.out⟩

def SzEs (xs : List Ent) (left : Int) (w : World) (e : Ending) (w' : World) : Prop := ∃ r : Int, e = .returned (.int .i64 r) ∧ r ≤ left ∧ (0 ≤ r → xs.length ≤ 1048576 ∧ ∀ x ∈ xs, smE x) ∧ Below w.heap.size w w'
set_option maxRecDepth 100000 in
set_option maxHeartbeats 1600000 in
theorem szEntryS_any (B : Nat) (v : Value) (xs : List Ent) (left : Int) (w : World) (h : RdE w B v xs) (hB : B ≤ w.heap.size) (hl : xs.length ≤ maxLen) (hx : ∀ x ∈ xs, lenE x) (q0 : 0 ≤ left) (q1 : left ≤ 1048576) :
    Calls Tryd.prog 11 #[v, .int .i64 left] w (SzEs xs left w) := by
  have H := Lib.hid h
  have Hx := Lib.hid hx
  obtain ⟨A, c, rfl⟩ := h.slice
  clear h hx
  simp only [maxLen] at hl
  have hb0 := Lib.hid (Below.refl w.heap.size w)
  by_cases hbig : left - (xs.length : Int) < 0
  · go_enter Tryd.func11, Tryd.ntmps11
    go_wp2_with fail
    go_ret
    exact ⟨_, rfl, by omega, by omega, hb0.out⟩
  · have hb1 : (0 : Int) ≤ left - (xs.length : Int) := by omega
    go_enter Tryd.func11, Tryd.ntmps11
    go_wp2_with fail
    go_loopw [1, 5] (fun l i wr => ∃ (k : Nat) (r : Int), k ≤ xs.length ∧ 0 ≤ r ∧ r ≤ left ∧ (∀ x ∈ xs.take k, smE x) ∧ l = .int .i64 r ∧ i = .int .i64 k ∧ Below w.heap.size w wr) (fun _ i _ => xs.length - (intOf i).toNat)
    case atStart => exact ⟨0, _, Nat.zero_le _, hb1, by omega, by simp, rfl, rfl, hb0.out⟩
    case round =>
      obtain ⟨k, r, hk, hr0, hr1, hall, rfl, rfl, hbl⟩ := hrel
      have Hall := Lib.hid hall; clear hall
      by_cases hlt : k < xs.length
      · obtain ⟨b1, o1, A1, c1, hA, hE⟩ := (H.out.below (hbl.mono hB)).at k hlt
        subst hA
        have hlt' : (k : Int) < (xs.length : Int) := by omega
        have Hle := Lib.hid (Hx.out xs[k] (List.getElem_mem hlt))
        have Hst := Lib.hid (show smE xs[k] → ∀ x ∈ xs.take (k + 1), smE x from fun h x hx => by
          rw [List.take_succ_eq_append_getElem hlt] at hx
          rcases List.mem_append.1 hx with h1 | h1
          · exact Hall.out x h1
          · rw [List.mem_singleton.1 h1]; exact h)
        generalize xs[k] = x at *
        obtain ⟨num, name, maker, year, words⟩ := x
        have HZ := Lib.hid (szEntry_any B ⟨num, name, maker, year, words⟩ A1 c1 r wr hE.words (Nat.le_trans hB hbl.size) Hle.out hr0 (by omega))
        obtain ⟨hbB, e0, e1, e2, e3, e4, _⟩ := hE
        dsimp only at e0 e1 e2 e3 e4
        go_wp2_with fail
        refine HZ.out.mono ?_; rintro e w1 ⟨r', rfl, hr1', hr2', hb1'⟩
        have hbl1 := hbl.trans (hb1'.mono hbl.size)
        have Hr2 := Lib.hid hr2'; clear hr2' hbl hb1'
        by_cases n1 : r' < 0
        · go_wp2_with fail
          go_ret
          exact ⟨_, rfl, by omega, by omega, hbl1⟩
        · go_wp2_with fail
          go_roundw
          case rel => exact ⟨k + 1, r', by omega, by omega, by omega, Hst.out (Hr2.out (by omega)), rfl, by go_num, hbl1⟩
          case measure => simp [intOf]; omega
      · have hfin := Hall.out
        rw [List.take_of_length_le (by omega)] at hfin
        have Hfin := Lib.hid hfin; clear hfin
        have hlt' : (xs.length : Int) ≤ (k : Int) := by omega
        go_wp2_with fail
        go_ret
        exact ⟨_, rfl, hr1, fun _ => ⟨by omega, Hfin.out⟩, hbl⟩
end Go.Proofs.YtplpeeienpaaeaaDoor
