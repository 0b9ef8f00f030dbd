/- Entries, part 1: how lists of entries lie; the exact laws' helpers. -/
import Derived.Test.YtplpeeienpaaeaaDoorStrs
import Derived.Test.YtplpeeienpaaeaaDoorArgRows
namespace Go.Proofs.YtplpeeienpaaeaaDoor
open Go.RowKit Go.Joins

structure Ent where
  num : Int
  name : ByteArray
  maker : ByteArray
  year : Int
  words : List ByteArray
deriving DecidableEq

/-- an entry's cells; the second part is the value of its words -/
def cellsE (x : Ent × Value) : List Value := [.int .i64 x.1.num, .string x.1.name, .string x.1.maker, .int .i64 x.1.year, x.2]
def RdW (w : World) (B : Nat) (y : Ent × Value) : Prop := Rd w B y.2 y.1.words.length 1 (strs y.1.words)
/-- THE READING OF A LIST OF ENTRIES -/
def RdE (w : World) (B : Nat) (v : Value) (xs : List Ent) : Prop :=
  ∃ ys : List (Ent × Value), ys.map (·.1) = xs ∧ Rd w B v xs.length 5 (ys.flatMap cellsE) ∧ ∀ y ∈ ys, RdW w B y
theorem RdE.below {w w' : World} {B : Nat} {v : Value} {xs : List Ent} (h : RdE w B v xs) (hb : Below B w w') : RdE w' B v xs := by
  obtain ⟨ys, h1, h2, h3⟩ := h
  exact ⟨ys, h1, h2.below hb, fun y hy => (h3 y hy).below hb⟩
theorem RdE.more {w : World} {B B' : Nat} {v : Value} {xs : List Ent} (h : RdE w B v xs) (hB : B ≤ B') : RdE w B' v xs := by
  obtain ⟨ys, h1, h2, h3⟩ := h
  exact ⟨ys, h1, h2.more hB, fun y hy => (h3 y hy).more hB⟩
theorem RdE.next {w w' : World} {v : Value} {xs : List Ent} (h : RdE w w.heap.size v xs) (hb : Below w.heap.size w w') : RdE w' w'.heap.size v xs := (h.below hb).more hb.size
theorem RdE.drewN {w : World} {B : Nat} {v : Value} {xs : List Ent} (h : RdE w B v xs) (n : Nat) : RdE (w.drewN n) B v xs := h
theorem RdE.slice {w : World} {B : Nat} {v : Value} {xs : List Ent} (h : RdE w B v xs) : ∃ A c, v = .slice A xs.length c := by
  obtain ⟨ys, h1, ⟨_, A, c, h2, _⟩, h3⟩ := h
  exact ⟨A, c, h2⟩

/-- the five cells of an entry -/
structure EntAt (w : World) (B b o : Nat) (x : Ent) (A : Option Addr) (c : Nat) : Prop where
  lt : b < B
  c0 : w.cell? ⟨b, o, none⟩ = some (.int .i64 x.num)
  c1 : w.cell? ⟨b, o + 1, none⟩ = some (.string x.name)
  c2 : w.cell? ⟨b, o + 2, none⟩ = some (.string x.maker)
  c3 : w.cell? ⟨b, o + 3, none⟩ = some (.int .i64 x.year)
  c4 : w.cell? ⟨b, o + 4, none⟩ = some (.slice A x.words.length c)
  words : Rd w B (.slice A x.words.length c) x.words.length 1 (strs x.words)
theorem EntAt.below {w w' : World} {B b o c : Nat} {x : Ent} {A : Option Addr} (h : EntAt w B b o x A c) (hb : Below B w w') : EntAt w' B b o x A c :=
  ⟨h.lt, (hb.cell (p := ⟨b, o, none⟩) h.lt).trans h.c0, (hb.cell (p := ⟨b, o + 1, none⟩) h.lt).trans h.c1, (hb.cell (p := ⟨b, o + 2, none⟩) h.lt).trans h.c2, (hb.cell (p := ⟨b, o + 3, none⟩) h.lt).trans h.c3, (hb.cell (p := ⟨b, o + 4, none⟩) h.lt).trans h.c4, h.words.below hb⟩
theorem EntAt.drewN {w : World} {B b o c : Nat} {x : Ent} {A : Option Addr} (h : EntAt w B b o x A c) (n : Nat) : EntAt (w.drewN n) B b o x A c := ⟨h.1, h.2, h.3, h.4, h.5, h.6, h.7⟩

theorem RdE.at {w : World} {B n c : Nat} {A : Option Addr} {xs : List Ent} (h : RdE w B (.slice A n c) xs) (k : Nat) (hk : k < xs.length) :
    ∃ b off A' c', A = some ⟨b, off, none⟩ ∧ EntAt w B b (off + k * 5) xs[k] A' c' := by
  obtain ⟨ys, h1, ⟨_, A0, c0, hv, hc⟩, h3⟩ := h
  subst h1
  injection hv with e1 e2 e3
  subst e1
  rw [List.length_map] at hk hc
  obtain ⟨b, off, hA, hb, hcc⟩ := hc (by omega)
  have hw := h3 ys[k] (List.getElem_mem hk)
  obtain ⟨_, A', c', hv', _⟩ := id hw
  have hx : (ys.map (·.1))[k]'(by simpa using hk) = ys[k].1 := by simp
  rw [hx]
  have hat : ∀ j u, j < 5 → (cellsE ys[k])[j]? = some u → w.cell? ⟨b, off + k * 5 + j, none⟩ = some u := fun j u hj hu => by
    have := hcc (k * 5 + j) u ((flat_at cellsE 5 (fun _ => rfl) ys k j hk hj).trans hu)
    rwa [← Nat.add_assoc] at this
  refine ⟨b, off, A', c', hA, ⟨hb, hat 0 _ (by omega) rfl, hat 1 _ (by omega) rfl, hat 2 _ (by omega) rfl, hat 3 _ (by omega) rfl, ?_, ?_⟩⟩
  · rw [← hv']; exact hat 4 _ (by omega) rfl
  · rw [← hv']; exact hw

theorem infoE : (Tryd.prog.info? 60).map (fun i => (i.zero, i.size, i.bytes)) = some (some (.agg #[.int .i64 0, .string ⟨#[]⟩, .string ⟨#[]⟩, .int .i64 0, .slice none 0 0]), 5, 72) := by kernel_rfl

/-- five cells of a block that is the call's own -/
theorem blk5 {w : World} {g : Nat} {a b c d e : Value} {t : TypeId} (h : w.heap[g]? = some (.cells #[a, b, c, d, e] t (0, 0))) :
    w.cell? ⟨g, 0, none⟩ = some a ∧ w.cell? ⟨g, 1, none⟩ = some b ∧ w.cell? ⟨g, 2, none⟩ = some c ∧ w.cell? ⟨g, 3, none⟩ = some d ∧ w.cell? ⟨g, 4, none⟩ = some e ∧ ∀ i, w.frozen? ⟨g, i, none⟩ = false := by
  refine ⟨?_, ?_, ?_, ?_, ?_, fun i => ?_⟩
  · rw [cell_of_row w g 0 _ _ _ h]; rfl
  · rw [cell_of_row w g 1 _ _ _ h]; rfl
  · rw [cell_of_row w g 2 _ _ _ h]; rfl
  · rw [cell_of_row w g 3 _ _ _ h]; rfl
  · rw [cell_of_row w g 4 _ _ _ h]; rfl
  · exact frozen_of_row w g i _ _ h

/-- a list of texts, copied: the slice is written out -/
theorem toStringS_c (B : Nat) (A : Option Addr) (c : Nat) (zs : List ByteArray) (w : World) (h : Rd w B (.slice A zs.length c) zs.length 1 (strs zs)) (hB : B ≤ w.heap.size) (hl : zs.length ≤ 1048576) :
    Calls Tryd.prog 55 #[.slice A zs.length c] w fun e w' => ∃ A' c', e = .returned (.slice A' zs.length c') ∧ w'.ownsRow w.heap.size 9 1 (.slice A' zs.length c') zs.length (strs zs) ∧ Below w.heap.size w w' := by
  refine (toStringS_any B _ zs w h hB hl).mono ?_
  rintro e w' ⟨v, rfl, ho, hb⟩
  obtain ⟨_, A', c', rfl, _⟩ := Rd.of_own ho
  exact ⟨A', c', rfl, ho, hb⟩

set_option maxRecDepth 100000 in
set_option maxHeartbeats 1600000 in
theorem toEntry_any (B : Nat) (x : Ent) (A : Option Addr) (c : Nat) (w : World) (h : Rd w B (.slice A x.words.length c) x.words.length 1 (strs x.words)) (hB : B ≤ w.heap.size) (hl : x.words.length ≤ 1048576) :
    Calls Tryd.prog 35 #[.agg #[.int .i64 x.num, .string x.name, .string x.maker, .int .i64 x.year, .slice A x.words.length c]] w fun e w' =>
      ∃ A' c', e = .returned (.agg #[.int .i64 x.num, .string x.name, .string x.maker, .int .i64 x.year, .slice A' x.words.length c']) ∧ w'.ownsRow w.heap.size 9 1 (.slice A' x.words.length c') x.words.length (strs x.words) ∧ Below w.heap.size w w' := by
  obtain ⟨num, name, maker, year, words⟩ := x
  simp only at *
  have HT := Lib.hid (fun wx hx hB => toStringS_c B A c words wx hx hB hl)
  have H := Lib.hid h
  go_enter Tryd.func35, Tryd.ntmps35
  go_wp2_with fail
  have hb3 := Lib.hid ((((Below.refl w.heap.size w).alloc (Nat.le_refl _) (.cells #[.int .i64 num, .string name, .string maker, .int .i64 year, .slice A words.length c] 58)).alloc (by simp) (.cells #[.int .i64 0, .string ⟨#[]⟩, .string ⟨#[]⟩, .int .i64 0, .slice none 0 0] 60)).alloc (by simp; omega) (.cells #[.int .i64 num, .string name, .string maker, .int .i64 year, .slice none 0 0] 60))
  have hr : ∀ i o, (i = 1 ∧ o = Obj.cells #[.int .i64 0, .string ⟨#[]⟩, .string ⟨#[]⟩, .int .i64 0, .slice none 0 0] 60 (0, 0)) ∨ (i = 2 ∧ o = Obj.cells #[.int .i64 num, .string name, .string maker, .int .i64 year, .slice none 0 0] 60 (0, 0)) → (((w.alloc (.cells #[.int .i64 num, .string name, .string maker, .int .i64 year, .slice A words.length c] 58)).alloc (.cells #[.int .i64 0, .string ⟨#[]⟩, .string ⟨#[]⟩, .int .i64 0, .slice none 0 0] 60)).alloc (.cells #[.int .i64 num, .string name, .string maker, .int .i64 year, .slice none 0 0] 60)).heap[w.heap.size + i]? = some o := by
    intro i o hi
    show (((w.heap.push _).push _).push _)[w.heap.size + i]? = _
    simp only [Array.getElem?_push, Array.size_push]
    rcases hi with ⟨rfl, rfl⟩ | ⟨rfl, rfl⟩ <;> simp
  have Hr := Lib.hid hr; clear hr
  have hz3 : (((w.alloc (.cells #[.int .i64 num, .string name, .string maker, .int .i64 year, .slice A words.length c] 58)).alloc (.cells #[.int .i64 0, .string ⟨#[]⟩, .string ⟨#[]⟩, .int .i64 0, .slice none 0 0] 60)).alloc (.cells #[.int .i64 num, .string name, .string maker, .int .i64 year, .slice none 0 0] 60)).heap.size = w.heap.size + 3 := by simp
  generalize ((w.alloc (.cells #[.int .i64 num, .string name, .string maker, .int .i64 year, .slice A words.length c] 58)).alloc (.cells #[.int .i64 0, .string ⟨#[]⟩, .string ⟨#[]⟩, .int .i64 0, .slice none 0 0] 60)).alloc (.cells #[.int .i64 num, .string name, .string maker, .int .i64 year, .slice none 0 0] 60) = w3 at *
  refine (HT.out _ (H.out.below (hb3.out.mono hB)) (by omega)).mono ?_; rintro e w4 ⟨A', c', rfl, ho4, hb4⟩
  have f1 := (hb4.block (w.heap.size + 1) (by omega)).trans (Hr.out 1 _ (.inl ⟨rfl, rfl⟩))
  have f2 := (hb4.block (w.heap.size + 1 + 1) (by omega)).trans (Hr.out 2 _ (.inr ⟨rfl, rfl⟩))
  obtain ⟨a0, a1, a2, a3, a4, a5⟩ := blk5 f1
  obtain ⟨b0, b1, b2, b3, b4, b5⟩ := blk5 f2
  have hb04 := hb3.out.trans (hb4.mono hb3.out.size)
  have g2 := heap_setCell_same w4 (w.heap.size + 1 + 1) 4 _ _ (.slice A' words.length c') f2
  have g1 : (w4.setCell ⟨w.heap.size + 1 + 1, 4, none⟩ (.slice A' words.length c')).heap[w.heap.size + 1]? = _ := (Below.heap_setCell _ _ _ _ (by simp)).trans f1
  have g3 := (heap_setCell_same _ (w.heap.size + 1) 4 _ _ (.slice A' words.length c') (heap_setCell_same _ (w.heap.size + 1) 3 _ _ (.int .i64 year) (heap_setCell_same _ (w.heap.size + 1) 2 _ _ (.string maker) (heap_setCell_same _ (w.heap.size + 1) 1 _ _ (.string name) (heap_setCell_same _ (w.heap.size + 1) 0 _ _ (.int .i64 num) g1)))))
  obtain ⟨p0, p1, p2, p3, p4, p5⟩ := blk5 g2
  obtain ⟨q0, q1, q2, q3, q4, _⟩ := blk5 g3
  have Hbe := Lib.hid ((((((hb04.setCell (p := ⟨w.heap.size + 1 + 1, 4, none⟩) (by simp; omega) (.slice A' words.length c')).setCell (p := ⟨w.heap.size + 1, 0, none⟩) (by simp) (.int .i64 num)).setCell (p := ⟨w.heap.size + 1, 1, none⟩) (by simp) (.string name)).setCell (p := ⟨w.heap.size + 1, 2, none⟩) (by simp) (.string maker)).setCell (p := ⟨w.heap.size + 1, 3, none⟩) (by simp) (.int .i64 year)).setCell (p := ⟨w.heap.size + 1, 4, none⟩) (by simp) (.slice A' words.length c'))
  have Hoe := Lib.hid (ownsRow_le (ownsRow_setCell_below (ownsRow_setCell_below (ownsRow_setCell_below (ownsRow_setCell_below (ownsRow_setCell_below (ownsRow_setCell_below ho4 (a := ⟨w.heap.size + 1 + 1, 4, none⟩) (by show w.heap.size + 1 + 1 < w3.heap.size; omega) (.slice A' words.length c')) (a := ⟨w.heap.size + 1, 0, none⟩) (by show w.heap.size + 1 < w3.heap.size; omega) (.int .i64 num)) (a := ⟨w.heap.size + 1, 1, none⟩) (by show w.heap.size + 1 < w3.heap.size; omega) (.string name)) (a := ⟨w.heap.size + 1, 2, none⟩) (by show w.heap.size + 1 < w3.heap.size; omega) (.string maker)) (a := ⟨w.heap.size + 1, 3, none⟩) (by show w.heap.size + 1 < w3.heap.size; omega) (.int .i64 year)) (a := ⟨w.heap.size + 1, 4, none⟩) (by show w.heap.size + 1 < w3.heap.size; omega) (.slice A' words.length c')) (base' := w.heap.size) (by omega))
  have k10 := a5 0
  have k11 := a5 1
  have k12 := a5 2
  have k13 := a5 3
  have k14 := a5 4
  have k24 := b5 4
  clear f1 f2 g1 g2 g3 hb4 hb04 ho4 hz3 a5 b5 p5
  go_wp2_with fail
  exact bodyPost_ret (v := .agg #[.int .i64 num, .string name, .string maker, .int .i64 year, .slice A' words.length c']) (by simp [results, Tryd.results35, go_sem, q0, q1, q2, q3, q4]) rfl ⟨_, _, rfl, Hoe.out, Hbe.out⟩
end Go.Proofs.YtplpeeienpaaeaaDoor
