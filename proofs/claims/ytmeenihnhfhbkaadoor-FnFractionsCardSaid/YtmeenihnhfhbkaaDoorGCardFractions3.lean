/- Merged texts: ArgRows, En1, En2, En3, En4, Lo1, Lo2, Lo3, Lo4, Lo5, Nm1, Nm2, Nm3, En6, En7, En8, En5, En9, Si1, Reg1, Si2, Si3, Si4, Si5, Lo6, Lo7, Lo8, Lo9, Lo10, Lo11, Bk4, Fr3. -/
import Derived.Test.YtmeenihnhfhbkaaDoorGCardFractions2
import Derived.Deep.Slices
import Derived.SliceStrings
import Derived.Test.YtmeenihnhfhbkaaDoorGCardFractions1
import Derived.Lib.SmallJoins
/- What a law's arguments read as: slices of structs, as rows of cells. -/
namespace Go.Proofs.YtmeenihnhfhbkaaDoor
open Go.ChangeShapes Go.WideShapes Go.ChangeAt Go.RowKit

/-- rows of equal width: cell j of row k -/
theorem flat_at {α : Type} (cells : α → List Value) (sz : Nat) (hc : ∀ x, (cells x).length = sz) : ∀ (xs : List α) (k j : Nat) (hk : k < xs.length), j < sz → (xs.flatMap cells)[k * sz + j]? = (cells xs[k])[j]?
  | [], k, j, hk, _ => by simp at hk
  | x :: xs, 0, j, _, hj => by
    rw [List.flatMap_cons, Nat.zero_mul, Nat.zero_add, List.getElem?_append_left (by rw [hc]; exact hj)]; rfl
  | x :: xs, k + 1, j, hk, hj => by
    rw [List.flatMap_cons, List.getElem?_append_right (by rw [hc, Nat.succ_mul]; omega), hc]
    have e : (k + 1) * sz + j - sz = k * sz + j := by rw [Nat.succ_mul]; omega
    rw [e, flat_at cells sz hc xs k j (by simpa using hk) hj]
    simp
theorem flat_len {α : Type} (cells : α → List Value) (sz : Nat) (hc : ∀ x, (cells x).length = sz) : ∀ xs : List α, (xs.flatMap cells).length = xs.length * sz
  | [] => by simp
  | x :: xs => by
    rw [List.flatMap_cons, List.length_append, hc, flat_len cells sz hc xs, List.length_cons, Nat.succ_mul]; omega

section
variable {H : Type} {enc : TypeId × Value → H} {P : Program} {W : World}

theorem rd_rows {α : Type} (cells : α → List Value) (good : α → Prop) {T E base sz : Nat} {r : Reach} {v : Value} {d : DataW H} {p : List MemPlace} (hT : P.underlying T = some (.slice E)) (hC : P.cellsOf E = sz) (hsz : 0 < sz) (hc : ∀ x, (cells x).length = sz)
    (elem : ∀ n cs y, DataW.trod enc P W 0 (fun _ => true) true n E cs = some y → ∃ x, cs = cells x ∧ good x)
    (ok : Value.okWide P W r base T v) (h : DataW.Trod enc P W 0 (fun _ => true) true T v d p) :
    ∃ xs : List α, Rd W W.heap.size v xs.length sz (xs.flatMap cells) ∧ xs.length ≤ maxLen ∧ ∀ x ∈ xs, good x := by
  obtain ⟨a0, len, cap, rfl⟩ := okWide_slice hT ok
  obtain ⟨fuel, hf⟩ := h
  rcases Go.Deep.open_slice hT hf with ⟨hcs, hx⟩ | ⟨a, len', cap', m, n, D, Pl, hcs, _, hl, hm, hmm, hx, hi⟩
  · simp [Value.cells] at hcs
    obtain ⟨rfl, rfl, rfl⟩ := hcs
    exact ⟨[], ⟨by simp, none, 0, rfl, fun h => by simp at h⟩, by simp [maxLen], by simp⟩
  · simp [Value.cells] at hcs
    obtain ⟨rfl, rfl, rfl⟩ := hcs
    have hm' : m = cap := by simpa using hmm
    subst hm'
    have hel : ∀ i : Nat, i < m → ∃ x, good x ∧ W.cells? 0 (a.add (i * sz)) sz = some (cells x) := fun i hi' => by
      obtain ⟨cs', h1, h2⟩ := hi i hi'
      obtain ⟨x, rfl, hg⟩ := elem _ _ _ h2
      rw [hC] at h1
      exact ⟨x, hg, h1⟩
    have hch : ∃ f : Fin len → α, ∀ i : Fin len, good (f i) ∧ W.cells? 0 (a.add (i * sz)) sz = some (cells (f i)) :=
      ⟨fun i => Classical.choose (hel i (by have := i.2; omega)), fun i => Classical.choose_spec (hel i (by have := i.2; omega))⟩
    obtain ⟨f, hff⟩ := hch
    have hlen : (List.ofFn f).length = len := List.length_ofFn
    refine ⟨List.ofFn f, ?_, by rw [hlen]; omega, fun x hx => ?_⟩
    · rw [hlen]
      refine ⟨by rw [flat_len cells sz hc, hlen], some a, m, rfl, fun hn => ?_⟩
      have hl0 : 0 < len := by
        rcases Nat.eq_zero_or_pos len with h | h
        · subst h; simp at hn
        · exact h
      have hcell : ∀ (k : Nat) (hk : k < len) (j : Nat), j < sz → W.cell? ((a.add (k * sz)).add j) = (cells (f ⟨k, hk⟩))[j]? := fun k hk j hj =>
        (World.cells?_some (hff ⟨k, hk⟩).2).2.2 j hj
      obtain ⟨b, off, spot⟩ := a
      have h00 := hcell 0 hl0 0 hsz
      rw [List.getElem?_eq_getElem (by rw [hc]; exact hsz)] at h00
      have hspot : spot = none := by simpa [Addr.add] using World.cell?_spot h00
      subst hspot
      have hadd : ∀ k j, ((⟨b, off, none⟩ : Addr).add (k * sz)).add j = ⟨b, off + (k * sz + j), none⟩ := fun k j => by
        rw [Go.WideShapes.add_plain, Go.WideShapes.add_plain, Nat.add_assoc]
      rw [hadd] at h00
      refine ⟨b, off, rfl, World.block_lt_of_cell? W _ h00, fun i u hu => ?_⟩
      have hil : i < len * sz := by
        have := (List.getElem?_eq_some_iff.1 hu).1
        rwa [flat_len cells sz hc, hlen] at this
      have hk : i / sz < len := by rw [Nat.div_lt_iff_lt_mul hsz]; exact hil
      have hj : i % sz < sz := Nat.mod_lt _ hsz
      have hdm : i / sz * sz + i % sz = i := by rw [Nat.mul_comm]; exact Nat.div_add_mod i sz
      have h1 := hcell (i / sz) hk (i % sz) hj
      rw [hadd, hdm] at h1
      have h2 := flat_at cells sz hc (List.ofFn f) (i / sz) (i % sz) (by rw [hlen]; exact hk) hj
      rw [hdm, List.getElem_ofFn] at h2
      rw [h1, ← h2, hu]
    · obtain ⟨i, rfl⟩ := List.mem_ofFn.1 hx
      exact (hff i).1
end
end Go.Proofs.YtmeenihnhfhbkaaDoor
/- Entries, part 1: how lists of entries lie; the exact laws' helpers. -/
namespace Go.Proofs.YtmeenihnhfhbkaaDoor
open Go.RowKit Go.Joins

structure Ent where
  num : Int
  name : ByteArray
  maker : ByteArray
  year : Int
  words : List ByteArray
deriving DecidableEq

/-- an entry's cells; the second part is the value of its words -/
def cellsE (x : Ent × Value) : List Value := [.int .i64 x.1.num, .string x.1.name, .string x.1.maker, .int .i64 x.1.year, x.2]
def RdW (w : World) (B : Nat) (y : Ent × Value) : Prop := Rd w B y.2 y.1.words.length 1 (strs y.1.words)
/-- THE READING OF A LIST OF ENTRIES -/
def RdE (w : World) (B : Nat) (v : Value) (xs : List Ent) : Prop :=
  ∃ ys : List (Ent × Value), ys.map (·.1) = xs ∧ Rd w B v xs.length 5 (ys.flatMap cellsE) ∧ ∀ y ∈ ys, RdW w B y
theorem RdE.below {w w' : World} {B : Nat} {v : Value} {xs : List Ent} (h : RdE w B v xs) (hb : Below B w w') : RdE w' B v xs := by
  obtain ⟨ys, h1, h2, h3⟩ := h
  exact ⟨ys, h1, h2.below hb, fun y hy => (h3 y hy).below hb⟩
theorem RdE.more {w : World} {B B' : Nat} {v : Value} {xs : List Ent} (h : RdE w B v xs) (hB : B ≤ B') : RdE w B' v xs := by
  obtain ⟨ys, h1, h2, h3⟩ := h
  exact ⟨ys, h1, h2.more hB, fun y hy => (h3 y hy).more hB⟩
theorem RdE.next {w w' : World} {v : Value} {xs : List Ent} (h : RdE w w.heap.size v xs) (hb : Below w.heap.size w w') : RdE w' w'.heap.size v xs := (h.below hb).more hb.size
theorem RdE.drewN {w : World} {B : Nat} {v : Value} {xs : List Ent} (h : RdE w B v xs) (n : Nat) : RdE (w.drewN n) B v xs := h
theorem RdE.slice {w : World} {B : Nat} {v : Value} {xs : List Ent} (h : RdE w B v xs) : ∃ A c, v = .slice A xs.length c := by
  obtain ⟨ys, h1, ⟨_, A, c, h2, _⟩, h3⟩ := h
  exact ⟨A, c, h2⟩

/-- the five cells of an entry -/
structure EntAt (w : World) (B b o : Nat) (x : Ent) (A : Option Addr) (c : Nat) : Prop where
  lt : b < B
  c0 : w.cell? ⟨b, o, none⟩ = some (.int .i64 x.num)
  c1 : w.cell? ⟨b, o + 1, none⟩ = some (.string x.name)
  c2 : w.cell? ⟨b, o + 2, none⟩ = some (.string x.maker)
  c3 : w.cell? ⟨b, o + 3, none⟩ = some (.int .i64 x.year)
  c4 : w.cell? ⟨b, o + 4, none⟩ = some (.slice A x.words.length c)
  words : Rd w B (.slice A x.words.length c) x.words.length 1 (strs x.words)
theorem EntAt.below {w w' : World} {B b o c : Nat} {x : Ent} {A : Option Addr} (h : EntAt w B b o x A c) (hb : Below B w w') : EntAt w' B b o x A c :=
  ⟨h.lt, (hb.cell (p := ⟨b, o, none⟩) h.lt).trans h.c0, (hb.cell (p := ⟨b, o + 1, none⟩) h.lt).trans h.c1, (hb.cell (p := ⟨b, o + 2, none⟩) h.lt).trans h.c2, (hb.cell (p := ⟨b, o + 3, none⟩) h.lt).trans h.c3, (hb.cell (p := ⟨b, o + 4, none⟩) h.lt).trans h.c4, h.words.below hb⟩
theorem EntAt.drewN {w : World} {B b o c : Nat} {x : Ent} {A : Option Addr} (h : EntAt w B b o x A c) (n : Nat) : EntAt (w.drewN n) B b o x A c := ⟨h.1, h.2, h.3, h.4, h.5, h.6, h.7⟩

theorem RdE.at {w : World} {B n c : Nat} {A : Option Addr} {xs : List Ent} (h : RdE w B (.slice A n c) xs) (k : Nat) (hk : k < xs.length) :
    ∃ b off A' c', A = some ⟨b, off, none⟩ ∧ EntAt w B b (off + k * 5) xs[k] A' c' := by
  obtain ⟨ys, h1, ⟨_, A0, c0, hv, hc⟩, h3⟩ := h
  subst h1
  injection hv with e1 e2 e3
  subst e1
  rw [List.length_map] at hk hc
  obtain ⟨b, off, hA, hb, hcc⟩ := hc (by omega)
  have hw := h3 ys[k] (List.getElem_mem hk)
  obtain ⟨_, A', c', hv', _⟩ := id hw
  have hx : (ys.map (·.1))[k]'(by simpa using hk) = ys[k].1 := by simp
  rw [hx]
  have hat : ∀ j u, j < 5 → (cellsE ys[k])[j]? = some u → w.cell? ⟨b, off + k * 5 + j, none⟩ = some u := fun j u hj hu => by
    have := hcc (k * 5 + j) u ((flat_at cellsE 5 (fun _ => rfl) ys k j hk hj).trans hu)
    rwa [← Nat.add_assoc] at this
  refine ⟨b, off, A', c', hA, ⟨hb, hat 0 _ (by omega) rfl, hat 1 _ (by omega) rfl, hat 2 _ (by omega) rfl, hat 3 _ (by omega) rfl, ?_, ?_⟩⟩
  · rw [← hv']; exact hat 4 _ (by omega) rfl
  · rw [← hv']; exact hw

/-- five cells of a block that is the call's own -/
theorem blk5 {w : World} {g : Nat} {a b c d e : Value} {t : TypeId} (h : w.heap[g]? = some (.cells #[a, b, c, d, e] t (0, 0))) :
    w.cell? ⟨g, 0, none⟩ = some a ∧ w.cell? ⟨g, 1, none⟩ = some b ∧ w.cell? ⟨g, 2, none⟩ = some c ∧ w.cell? ⟨g, 3, none⟩ = some d ∧ w.cell? ⟨g, 4, none⟩ = some e ∧ ∀ i, w.frozen? ⟨g, i, none⟩ = false := by
  refine ⟨?_, ?_, ?_, ?_, ?_, fun i => ?_⟩
  · rw [cell_of_row w g 0 _ _ _ h]; rfl
  · rw [cell_of_row w g 1 _ _ _ h]; rfl
  · rw [cell_of_row w g 2 _ _ _ h]; rfl
  · rw [cell_of_row w g 3 _ _ _ h]; rfl
  · rw [cell_of_row w g 4 _ _ _ h]; rfl
  · exact frozen_of_row w g i _ _ h

end Go.Proofs.YtmeenihnhfhbkaaDoor
/- Entries, part 2: copies, equality and room of lists of entries; the reading of an argument. -/
namespace Go.Proofs.YtmeenihnhfhbkaaDoor
open Go.RowKit Go.Joins

theorem set5 (l r : List Value) (n : Nat) (hn : l.length = n) (hr : 5 ≤ r.length) (a b c d e : Value) :
    (((((l ++ r).set n a).set (n + 1) b).set (n + 2) c).set (n + 3) d).set (n + 4) e = (l ++ [a, b, c, d, e]) ++ r.drop 5 := by
  subst hn
  match r, hr with
  | x0 :: x1 :: x2 :: x3 :: x4 :: r, _ =>
    rw [List.set_append_right _ _ (Nat.le_refl _), List.set_append_right _ _ (by omega), List.set_append_right _ _ (by omega), List.set_append_right _ _ (by omega), List.set_append_right _ _ (by omega)]
    simp

theorem Rd.of_own' {w : World} {base : Nat} {e : TypeId} {sz n : Nat} {v : Value} {cs : List Value} (h : w.ownsRow base e sz v n cs) : Rd w w.heap.size v n sz cs := Rd.of_own h

end Go.Proofs.YtmeenihnhfhbkaaDoor
/- Entries, part 3: equality and room of entries; the reading of an argument. -/
namespace Go.Proofs.YtmeenihnhfhbkaaDoor
open Go.RowKit Go.Joins

/-- an entry as a value -/
abbrev aggE (x : Ent) (A : Option Addr) (c : Nat) : Value := .agg #[.int .i64 x.num, .string x.name, .string x.maker, .int .i64 x.year, .slice A x.words.length c]

/-- the ten cells of two entries -/
theorem EntAt.ten {w : World} {B1 B2 b1 o1 b2 o2 c1 c2 : Nat} {x y : Ent} {A1 A2 : Option Addr} (h : EntAt w B1 b1 o1 x A1 c1) (k : EntAt w B2 b2 o2 y A2 c2) :
    w.cell? ⟨b1, o1, none⟩ = some (.int .i64 x.num) ∧ w.cell? ⟨b1, o1 + 1, none⟩ = some (.string x.name) ∧ w.cell? ⟨b1, o1 + 2, none⟩ = some (.string x.maker) ∧ w.cell? ⟨b1, o1 + 3, none⟩ = some (.int .i64 x.year) ∧ w.cell? ⟨b1, o1 + 4, none⟩ = some (.slice A1 x.words.length c1) ∧
    w.cell? ⟨b2, o2, none⟩ = some (.int .i64 y.num) ∧ w.cell? ⟨b2, o2 + 1, none⟩ = some (.string y.name) ∧ w.cell? ⟨b2, o2 + 2, none⟩ = some (.string y.maker) ∧ w.cell? ⟨b2, o2 + 3, none⟩ = some (.int .i64 y.year) ∧ w.cell? ⟨b2, o2 + 4, none⟩ = some (.slice A2 y.words.length c2) :=
  ⟨h.c0, h.c1, h.c2, h.c3, h.c4, k.c0, k.c1, k.c2, k.c3, k.c4⟩

/-- all that an argument's entries are -/
def lenE (x : Ent) : Prop := x.name.size ≤ maxLen ∧ x.maker.size ≤ maxLen ∧ x.words.length ≤ maxLen ∧ ∀ z ∈ x.words, z.size ≤ maxLen
/-- small enough -/
def smE (x : Ent) : Prop := x.name.size ≤ 1048576 ∧ x.maker.size ≤ 1048576 ∧ x.words.length ≤ 1048576 ∧ ∀ z ∈ x.words, z.size ≤ 1048576
def SzE (x : Ent) (left : Int) (w : World) (e : Ending) (w' : World) : Prop := ∃ r : Int, e = .returned (.int .i64 r) ∧ r ≤ left ∧ (0 ≤ r → smE x) ∧ Below w.heap.size w w'

def SzEs (xs : List Ent) (left : Int) (w : World) (e : Ending) (w' : World) : Prop := ∃ r : Int, e = .returned (.int .i64 r) ∧ r ≤ left ∧ (0 ≤ r → xs.length ≤ 1048576 ∧ ∀ x ∈ xs, smE x) ∧ Below w.heap.size w w'
end Go.Proofs.YtmeenihnhfhbkaaDoor
/- Entries, part 4: SameEntries on both sides. -/
namespace Go.Proofs.YtmeenihnhfhbkaaDoor
open Go.RowKit Go.Joins

/-- where two entries part first -/
theorem ent_cases (x y : Ent) : x = y ∨
    (x ≠ y ∧ ((x.num != y.num) = true ∨ (x.num = y.num ∧ (x.name.toList != y.name.toList) = true ∧ (x.name.toList == y.name.toList) = false) ∨ (x.num = y.num ∧ x.name = y.name ∧ (x.maker.toList != y.maker.toList) = true ∧ (x.maker.toList == y.maker.toList) = false) ∨
      (x.num = y.num ∧ x.name = y.name ∧ x.maker = y.maker ∧ (x.year != y.year) = true) ∨ (x.num = y.num ∧ x.name = y.name ∧ x.maker = y.maker ∧ x.year = y.year ∧ decide (x.words = y.words) = false))) := by
  have hbn : ∀ a b : ByteArray, a ≠ b → (a.toList != b.toList) = true ∧ (a.toList == b.toList) = false := fun a b h =>
    ⟨bne_iff_ne.2 fun e => h (ba_inj e), beq_eq_false_iff_ne.2 fun e => h (ba_inj e)⟩
  by_cases h : x = y
  · exact .inl h
  · refine .inr ⟨h, ?_⟩
    by_cases h1 : x.num = y.num
    · by_cases h2 : x.name = y.name
      · by_cases h3 : x.maker = y.maker
        · by_cases h4 : x.year = y.year
          · refine .inr (.inr (.inr (.inr ⟨h1, h2, h3, h4, ?_⟩)))
            rw [decide_eq_false_iff_not]
            intro h5
            exact h (by obtain ⟨a, b, c, d, e⟩ := x; obtain ⟨a', b', c', d', e'⟩ := y; simp_all)
          · exact .inr (.inr (.inr (.inl ⟨h1, h2, h3, bne_iff_ne.2 h4⟩)))
        · exact .inr (.inr (.inl ⟨h1, h2, hbn _ _ h3⟩))
      · exact .inr (.inl ⟨h1, hbn _ _ h2⟩)
    · exact .inl (bne_iff_ne.2 h1)

theorem ents_bad {xs ys : List Ent} (k : Nat) (hx : k < xs.length) (hy : k < ys.length) (h : xs[k] ≠ ys[k]) : decide (xs = ys) = false := by
  rw [decide_eq_false_iff_not]
  intro e
  subst e
  exact h rfl
theorem ents_step {xs ys : List Ent} (k : Nat) (hx : k < xs.length) (hy : k < ys.length) (h0 : xs.take k = ys.take k) (h : xs[k] = ys[k]) : xs.take (k + 1) = ys.take (k + 1) := by
  rw [List.take_succ_eq_append_getElem hx, List.take_succ_eq_append_getElem hy, h0, h]

end Go.Proofs.YtmeenihnhfhbkaaDoor
/- Loans, part 1: how lists of loans lie; one loan's size and copy. -/
namespace Go.Proofs.YtmeenihnhfhbkaaDoor
open Go.RowKit Go.Joins

structure Ln where
  what : ByteArray
  who : ByteArray
  from_ : Int
  till : Int
deriving DecidableEq
def cellsL (x : Ln) : List Value := [.string x.what, .string x.who, .int .i64 x.from_, .int .i64 x.till]
abbrev aggL (x : Ln) : Value := .agg #[.string x.what, .string x.who, .int .i64 x.from_, .int .i64 x.till]
/-- the reading of a list of loans -/
def RdL (w : World) (B : Nat) (v : Value) (xs : List Ln) : Prop := Rd w B v xs.length 4 (xs.flatMap cellsL)
theorem RdL.below {w w' : World} {B : Nat} {v : Value} {xs : List Ln} (h : RdL w B v xs) (hb : Below B w w') : RdL w' B v xs := Rd.below h hb
theorem RdL.more {w : World} {B B' : Nat} {v : Value} {xs : List Ln} (h : RdL w B v xs) (hB : B ≤ B') : RdL w B' v xs := Rd.more h hB
theorem RdL.next {w w' : World} {v : Value} {xs : List Ln} (h : RdL w w.heap.size v xs) (hb : Below w.heap.size w w') : RdL w' w'.heap.size v xs := (h.below hb).more hb.size
theorem RdL.drewN {w : World} {B : Nat} {v : Value} {xs : List Ln} (h : RdL w B v xs) (n : Nat) : RdL (w.drewN n) B v xs := h
theorem RdL.slice {w : World} {B : Nat} {v : Value} {xs : List Ln} (h : RdL w B v xs) : ∃ A c, v = .slice A xs.length c := by
  obtain ⟨_, A, c, h2, _⟩ := h
  exact ⟨A, c, h2⟩
/-- the four cells of a loan -/
structure LnAt (w : World) (B b o : Nat) (x : Ln) : Prop where
  lt : b < B
  c0 : w.cell? ⟨b, o, none⟩ = some (.string x.what)
  c1 : w.cell? ⟨b, o + 1, none⟩ = some (.string x.who)
  c2 : w.cell? ⟨b, o + 2, none⟩ = some (.int .i64 x.from_)
  c3 : w.cell? ⟨b, o + 3, none⟩ = some (.int .i64 x.till)
theorem LnAt.below {w w' : World} {B b o : Nat} {x : Ln} (h : LnAt w B b o x) (hb : Below B w w') : LnAt w' B b o x :=
  ⟨h.lt, (hb.cell (p := ⟨b, o, none⟩) h.lt).trans h.c0, (hb.cell (p := ⟨b, o + 1, none⟩) h.lt).trans h.c1, (hb.cell (p := ⟨b, o + 2, none⟩) h.lt).trans h.c2, (hb.cell (p := ⟨b, o + 3, none⟩) h.lt).trans h.c3⟩
theorem LnAt.drewN {w : World} {B b o : Nat} {x : Ln} (h : LnAt w B b o x) (n : Nat) : LnAt (w.drewN n) B b o x := ⟨h.1, h.2, h.3, h.4, h.5⟩
theorem RdL.at {w : World} {B n c : Nat} {A : Option Addr} {xs : List Ln} (h : RdL w B (.slice A n c) xs) (k : Nat) (hk : k < xs.length) :
    ∃ b off, A = some ⟨b, off, none⟩ ∧ LnAt w B b (off + k * 4) xs[k] := by
  obtain ⟨_, A0, c0, hv, hc⟩ := h
  injection hv with e1 e2 e3
  subst e1
  obtain ⟨b, off, hA, hb, hcc⟩ := hc (by omega)
  have hat : ∀ j u, j < 4 → (cellsL xs[k])[j]? = some u → w.cell? ⟨b, off + k * 4 + j, none⟩ = some u := fun j u hj hu => by
    have := hcc (k * 4 + j) u ((flat_at cellsL 4 (fun _ => rfl) xs k j hk hj).trans hu)
    rwa [← Nat.add_assoc] at this
  exact ⟨b, off, hA, ⟨hb, hat 0 _ (by omega) rfl, hat 1 _ (by omega) rfl, hat 2 _ (by omega) rfl, hat 3 _ (by omega) rfl⟩⟩
def lenL (x : Ln) : Prop := x.what.size ≤ maxLen ∧ x.who.size ≤ maxLen
def smL (x : Ln) : Prop := x.what.size ≤ 1048576 ∧ x.who.size ≤ 1048576
def SzL (x : Ln) (left : Int) (w : World) (e : Ending) (w' : World) : Prop := ∃ r : Int, e = .returned (.int .i64 r) ∧ r ≤ left ∧ (0 ≤ r → smL x) ∧ Below w.heap.size w w'
end Go.Proofs.YtmeenihnhfhbkaaDoor
/- Loans, part 2: sizes of lists, one loan's copy and equality. -/
namespace Go.Proofs.YtmeenihnhfhbkaaDoor
open Go.RowKit Go.Joins

def SzLs (xs : List Ln) (left : Int) (w : World) (e : Ending) (w' : World) : Prop := ∃ r : Int, e = .returned (.int .i64 r) ∧ r ≤ left ∧ (0 ≤ r → xs.length ≤ 1048576 ∧ ∀ x ∈ xs, smL x) ∧ Below w.heap.size w w'
end Go.Proofs.YtmeenihnhfhbkaaDoor
/- Loans, part 3: lists of loans copied and compared. -/
namespace Go.Proofs.YtmeenihnhfhbkaaDoor
open Go.RowKit Go.Joins

theorem set4 (l r : List Value) (n : Nat) (hn : l.length = n) (hr : 4 ≤ r.length) (a b c d : Value) :
    ((((l ++ r).set n a).set (n + 1) b).set (n + 2) c).set (n + 3) d = (l ++ [a, b, c, d]) ++ r.drop 4 := by
  subst hn
  match r, hr with
  | x0 :: x1 :: x2 :: x3 :: r, _ =>
    rw [List.set_append_right _ _ (Nat.le_refl _), List.set_append_right _ _ (by omega), List.set_append_right _ _ (by omega), List.set_append_right _ _ (by omega)]
    simp

end Go.Proofs.YtmeenihnhfhbkaaDoor
/- Loans, part 4: lists of loans compared. -/
namespace Go.Proofs.YtmeenihnhfhbkaaDoor
open Go.RowKit Go.Joins

def EightC (w : World) (b1 o1 b2 o2 : Nat) (a b : ByteArray) (f t : Int) : Prop :=
  w.cell? ⟨b1, o1, none⟩ = some (.string a) ∧ w.cell? ⟨b1, o1 + 1, none⟩ = some (.string b) ∧ w.cell? ⟨b1, o1 + 2, none⟩ = some (.int .i64 f) ∧ w.cell? ⟨b1, o1 + 3, none⟩ = some (.int .i64 t) ∧ w.cell? ⟨b2, o2, none⟩ = some (.string a) ∧ w.cell? ⟨b2, o2 + 1, none⟩ = some (.string b) ∧ w.cell? ⟨b2, o2 + 2, none⟩ = some (.int .i64 f) ∧ w.cell? ⟨b2, o2 + 3, none⟩ = some (.int .i64 t)
theorem eight_cells {W w1 : World} {b1 o1 b2 o2 : Nat} {a b : ByteArray} {f t : Int} (hb : Below W.heap.size W w1) (h : EightC W b1 o1 b2 o2 a b f t) : EightC w1 b1 o1 b2 o2 a b f t :=
  have k {p : Addr} {v : Value} (h : W.cell? p = some v) : w1.cell? p = some v := (hb.cell (World.block_lt_of_cell? W _ h)).trans h
  ⟨k h.1, k h.2.1, k h.2.2.1, k h.2.2.2.1, k h.2.2.2.2.1, k h.2.2.2.2.2.1, k h.2.2.2.2.2.2.1, k h.2.2.2.2.2.2.2⟩

end Go.Proofs.YtmeenihnhfhbkaaDoor
/- Loans, part 5: the reading of an argument. -/
namespace Go.Proofs.YtmeenihnhfhbkaaDoor
open Go.ChangeShapes Go.WideShapes Go.ChangeAt Go.RowKit

end Go.Proofs.YtmeenihnhfhbkaaDoor
/- Names: IsName on both sides. -/
namespace Go.Proofs.YtmeenihnhfhbkaaDoor
open Go.RowKit Go.Joins

def smC (c : Nat) : Bool := decide (97 ≤ c) && decide (c ≤ 122)
def dgC (c : Nat) : Bool := decide (48 ≤ c) && decide (c ≤ 57)
def okC (c : Nat) : Bool := smC c || dgC c || decide (c = 45)
/-- a name -/
def isNm (l : List UInt8) : Bool := match l with
  | [] => false
  | c :: t => decide (t.length < 12) && smC c.toNat && (c :: t).all fun c => okC c.toNat
theorem isNm_nil : isNm [] = false := rfl
theorem isNm_cons (c : UInt8) (t : List UInt8) : isNm (c :: t) = (decide (t.length < 12) && smC c.toNat && (c :: t).all fun c => okC c.toNat) := rfl
theorem isNm_long (l : List UInt8) (h : 12 < l.length) : isNm l = false := by
  cases l with
  | nil => rfl
  | cons c t =>
    have : ¬ t.length < 12 := by simp at h; omega
    simp [isNm, this]
theorem isNm_bad (l : List UInt8) (k : Nat) (hk : k < l.length) (h : okC l[k].toNat = false) : isNm l = false := by
  cases l with
  | nil => rfl
  | cons c t =>
    have : ((c :: t).all fun c => okC c.toNat) = false := by
      rw [List.all_eq_false]
      exact ⟨_, List.getElem_mem hk, by simp [h]⟩
    rw [isNm_cons, this, Bool.and_false]
theorem isNm_first (l : List UInt8) (hk : 0 < l.length) (h : smC l[0].toNat = false) : isNm l = false := by
  cases l with
  | nil => rfl
  | cons c t => simp at h; simp [isNm, h]
theorem isNm_yes (l : List UInt8) (hk : 0 < l.length) (hk2 : l.length ≤ 12) (h : smC l[0].toNat = true) (ha : (l.all fun c => okC c.toNat) = true) : isNm l = true := by
  cases l with
  | nil => simp at hk
  | cons c t =>
    simp only [List.length_cons] at hk2
    have : t.length < 12 := by omega
    simp at h
    rw [isNm_cons, ha, h]
    simp [this]
theorem all_step (l : List UInt8) (k : Nat) (hk : k < l.length) (h0 : ((l.take k).all fun c => okC c.toNat) = true) (h : okC l[k].toNat = true) : ((l.take (k + 1)).all fun c => okC c.toNat) = true := by
  rw [List.take_succ_eq_append_getElem hk, List.all_append, h0]
  simp [h]
theorem chr_cases (x : Nat) : (smC x = true ∧ 97 ≤ x ∧ x ≤ 122) ∨ (smC x = false ∧ dgC x = true ∧ 48 ≤ x ∧ x ≤ 57) ∨ (smC x = false ∧ dgC x = false ∧ x = 45) ∨ (smC x = false ∧ dgC x = false ∧ x ≠ 45 ∧ x < 97) ∨ (smC x = false ∧ dgC x = false ∧ x ≠ 45 ∧ 122 < x) := by
  simp only [smC, dgC, Bool.and_eq_true, Bool.and_eq_false_iff, decide_eq_true_eq, decide_eq_false_iff_not]
  omega

theorem isDigit_any (x : Nat) (w : World) :
    Calls Tryd.prog 97 #[.int .u8 (x : Int)] w fun e w' => e = .returned (.bool (dgC x)) ∧ w = w' := by
  by_cases h1 : 48 ≤ x
  · by_cases h2 : x ≤ 57
    all_goals
      have e1 := Lib.hid (show dgC x = decide (x ≤ 57) by simp [dgC, h1])
      go_enter Tryd.func97, Tryd.ntmps97
      go_wp2
      go_ret
      rw [e1.out]; simp [h2] <;> omega
  · have e1 := Lib.hid (show dgC x = false by simp [dgC, h1])
    have h1' : (x : Int) < 48 := by omega
    go_enter Tryd.func97, Tryd.ntmps97
    go_wp2
    go_ret
    rw [e1.out]; exact ⟨rfl, rfl⟩
theorem l01Small_any (x : Nat) (w : World) :
    Calls Tryd.prog 102 #[.int .u8 (x : Int)] w fun e w' => e = .returned (.bool (smC x)) ∧ w = w' := by
  by_cases h1 : 97 ≤ x
  · by_cases h2 : x ≤ 122
    all_goals
      have e1 := Lib.hid (show smC x = decide (x ≤ 122) by simp [smC, h1])
      go_enter Tryd.func102, Tryd.ntmps102
      go_wp2
      go_ret
      rw [e1.out]; simp [h2] <;> omega
  · have e1 := Lib.hid (show smC x = false by simp [smC, h1])
    have h1' : (x : Int) < 97 := by omega
    go_enter Tryd.func102, Tryd.ntmps102
    go_wp2
    go_ret
    rw [e1.out]; exact ⟨rfl, rfl⟩
theorem l01Digit_any (x : Nat) (w : World) :
    Calls Tryd.prog 99 #[.int .u8 (x : Int)] w fun e w' => e = .returned (.bool (dgC x)) ∧ w = w' := by
  by_cases h1 : 48 ≤ x
  · by_cases h2 : x ≤ 57
    all_goals
      have e1 := Lib.hid (show dgC x = decide (x ≤ 57) by simp [dgC, h1])
      go_enter Tryd.func99, Tryd.ntmps99
      go_wp2
      go_ret
      rw [e1.out]; simp [h2] <;> omega
  · have e1 := Lib.hid (show dgC x = false by simp [dgC, h1])
    have h1' : (x : Int) < 48 := by omega
    go_enter Tryd.func99, Tryd.ntmps99
    go_wp2
    go_ret
    rw [e1.out]; exact ⟨rfl, rfl⟩
end Go.Proofs.YtmeenihnhfhbkaaDoor
/- Names, part 2: the walks of IsName. -/
namespace Go.Proofs.YtmeenihnhfhbkaaDoor
open Go.RowKit Go.Joins

theorem okC_sm {x : Nat} (h : smC x = true) : okC x = true := by simp [okC, h]
theorem okC_dg {x : Nat} (h : dgC x = true) : okC x = true := by simp [okC, h]
theorem okC_da {x : Nat} (h : x = 45) : okC x = true := by simp [okC, h]
theorem okC_no {x : Nat} (h : smC x = false) (h2 : dgC x = false) (h3 : x ≠ 45) : okC x = false := by simp [okC, h, h2, h3]

set_option maxRecDepth 100000 in
set_option maxHeartbeats 1600000 in
theorem IsNameI_any (s : ByteArray) (w : World) (hs : s.size ≤ 1048576) :
    Calls Tryd.prog 92 #[.string s] w fun e w' => e = .returned (.bool (isNm s.data.toList)) ∧ w = w' := by
  have hsz : s.data.toList.length = s.size := by simp
  have Hsz := Lib.hid hsz; clear hsz
  by_cases h0 : s.size = 0
  · have hfin := Lib.hid (show isNm s.data.toList = false by
      have he : s.data.toList = [] := List.eq_nil_of_length_eq_zero (by rw [Hsz.out, h0])
      rw [he]; rfl)
    have hq : ((s.size : Int) == 0) = true := by simp [h0]
    clear h0
    go_enter Tryd.func92, Tryd.ntmps92
    go_wp2_with fail
    go_ret
    rw [hfin.out]; exact ⟨rfl, rfl⟩
  · have hq : ((s.size : Int) == 0) = false := by simpa using h0
    by_cases h12 : 12 < s.size
    · have hfin := Lib.hid (isNm_long s.data.toList (by rw [Hsz.out]; exact h12))
      have hq2 : (12 : Int) < (s.size : Int) := by omega
      clear h0
      go_enter Tryd.func92, Tryd.ntmps92
      go_wp2_with fail
      go_ret
      rw [hfin.out]; exact ⟨rfl, rfl⟩
    · have hq2 : (s.size : Int) ≤ 12 := by omega
      have hp : 0 < s.data.toList.length := by rw [Hsz.out]; omega
      have Hp := Lib.hid hp
      go_enter Tryd.func92, Tryd.ntmps92
      go_wp2_with fail
      go_loop [15] (fun i => ∃ k : Nat, k ≤ s.size ∧ ((s.data.toList.take k).all fun c => okC c.toNat) = true ∧ (0 < k → smC (s.data.toList[0]'hp).toNat = true) ∧ i = .int .i64 k) (fun i => s.size - (intOf i).toNat)
      case atStart => exact ⟨0, Nat.zero_le _, rfl, by omega, rfl⟩
      case round =>
        obtain ⟨k, hk, hall, hfst, rfl⟩ := hrel
        have Hall := Lib.hid hall; clear hall
        have Hfst := Lib.hid hfst; clear hfst
        by_cases hlt : k < s.size
        · have hkl : k < s.data.toList.length := by rw [Hsz.out]; exact hlt
          have Hbad := Lib.hid (show okC s[k].toNat = false → isNm s.data.toList = false from fun h => isNm_bad s.data.toList k hkl h)
          have Hst := Lib.hid (show okC s[k].toNat = true → ((s.data.toList.take (k + 1)).all fun c => okC c.toNat) = true from fun h => all_step s.data.toList k hkl Hall.out h)
          have Hfk := Lib.hid (show smC s[k].toNat = true → smC (s.data.toList[0]'hp).toNat = true from fun h => by
            by_cases hk0 : k = 0
            · subst hk0; exact h
            · exact Hfst.out (by omega))
          have Hf0 := Lib.hid (show k = 0 → smC s[k].toNat = false → isNm s.data.toList = false from fun h h2 => isNm_first s.data.toList hp (by subst h; exact h2))
          have hx8 := s[k].toNat_lt
          have hx9 : (s[k].toNat : Int) < 256 := by omega
          have HD := Lib.hid (fun wx => isDigit_any s[k].toNat wx)
          clear hx8
          have hlt' : (k : Int) < (s.size : Int) := by omega
          by_cases hk0 : k = 0
          · have hqk : ((k : Int) == 0) = true := by simp [hk0]
            rcases chr_cases s[k].toNat with ⟨c1, c2, c3⟩ | ⟨c1, c2, c3, c4⟩ | ⟨c1, c2, c3⟩ | ⟨c1, c2, c3, c4⟩ | ⟨c1, c2, c3, c4⟩
            · have hst := Lib.hid (Hst.out (okC_sm c1))
              have hf := Lib.hid (Hfk.out c1)
              clear Hbad Hst Hfk Hf0 c1 hk0
              have d1 : (97 : Int) ≤ (s[k].toNat : Int) := by omega
              have d2 : (s[k].toNat : Int) ≤ 122 := by omega
              go_wp2_with fail
              go_round
              case rel => exact ⟨k + 1, by omega, hst.out, fun _ => hf.out, by go_num⟩
              case measure => simp [intOf]; omega
            all_goals
              have hfin := Lib.hid (Hf0.out hk0 c1)
              clear Hbad Hst Hfk Hf0 c1 c2 hk0
              rcases Nat.lt_or_ge s[k].toNat 97 with d0 | d0
              · first
                | (exfalso; omega)
                | (have d1 : (s[k].toNat : Int) < 97 := by omega
                   go_wp2_with fail
                   go_ret
                   rw [hfin.out]; exact ⟨rfl, rfl⟩)
              · first
                | (exfalso; omega)
                | (have d1 : (97 : Int) ≤ (s[k].toNat : Int) := by omega
                   have d2 : decide ((s[k].toNat : Int) ≤ 122) = false := by rw [decide_eq_false_iff_not]; omega
                   go_wp2_with fail
                   go_ret
                   rw [hfin.out]; exact ⟨rfl, rfl⟩)
          · have hqk : ((k : Int) == 0) = false := by simpa using hk0
            have hf := Lib.hid (Hfst.out (by omega))
            rcases chr_cases s[k].toNat with ⟨c1, c2, c3⟩ | ⟨c1, c2, c3, c4⟩ | ⟨c1, c2, c3⟩ | ⟨c1, c2, c3, c4⟩ | ⟨c1, c2, c3, c4⟩
            · have hst := Lib.hid (Hst.out (okC_sm c1))
              clear Hbad Hst Hfk Hf0 c1 hk0
              have d1 : (97 : Int) ≤ (s[k].toNat : Int) := by omega
              have d2 : (s[k].toNat : Int) ≤ 122 := by omega
              go_wp2_with fail
              go_round
              case rel => exact ⟨k + 1, by omega, hst.out, fun _ => hf.out, by go_num⟩
              case measure => simp [intOf]; omega
            · have hst := Lib.hid (Hst.out (okC_dg c2))
              rw [c2] at HD
              clear Hbad Hst Hfk Hf0 c1 c2 hk0
              have d1 : (s[k].toNat : Int) < 97 := by omega
              have d3 : ((s[k].toNat : Int) != 45) = true := by rw [bne_iff_ne]; omega
              go_wp2_with fail
              refine (HD.out _).mono ?_; rintro e w1 ⟨rfl, rfl⟩
              go_wp2_with fail
              go_round
              case rel => exact ⟨k + 1, by omega, hst.out, fun _ => hf.out, by go_num⟩
              case measure => simp [intOf]; omega
            · have hst := Lib.hid (Hst.out (okC_da c3))
              clear Hbad Hst Hfk Hf0 c1 c2 hk0
              have d1 : (s[k].toNat : Int) < 97 := by omega
              have d3 : ((s[k].toNat : Int) != 45) = false := by simp [c3]
              clear c3
              go_wp2_with fail
              go_round
              case rel => exact ⟨k + 1, by omega, hst.out, fun _ => hf.out, by go_num⟩
              case measure => simp [intOf]; omega
            · have hfin := Lib.hid (Hbad.out (okC_no c1 c2 c3))
              rw [c2] at HD
              have d1 : (s[k].toNat : Int) < 97 := by omega
              have d3 : ((s[k].toNat : Int) != 45) = true := by rw [bne_iff_ne]; omega
              clear Hbad Hst Hfk Hf0 c1 c2 c3 hk0
              go_wp2_with fail
              refine (HD.out _).mono ?_; rintro e w1 ⟨rfl, rfl⟩
              go_wp2_with fail
              go_ret
              rw [hfin.out]; exact ⟨rfl, rfl⟩
            · have hfin := Lib.hid (Hbad.out (okC_no c1 c2 c3))
              rw [c2] at HD
              have d1 : (97 : Int) ≤ (s[k].toNat : Int) := by omega
              have d2 : decide ((s[k].toNat : Int) ≤ 122) = false := by rw [decide_eq_false_iff_not]; omega
              have d3 : ((s[k].toNat : Int) != 45) = true := by rw [bne_iff_ne]; omega
              clear Hbad Hst Hfk Hf0 c1 c2 c3 hk0
              go_wp2_with fail
              refine (HD.out _).mono ?_; rintro e w1 ⟨rfl, rfl⟩
              go_wp2_with fail
              go_ret
              rw [hfin.out]; exact ⟨rfl, rfl⟩
        · have hfin := Lib.hid (show isNm s.data.toList = true from isNm_yes _ hp (by rw [Hsz.out]; omega) (Hfst.out (by omega)) (by
            have := Hall.out
            rwa [List.take_of_length_le (by rw [Hsz.out]; omega)] at this))
          have hlt' : (s.size : Int) ≤ (k : Int) := by omega
          go_wp2_with fail
          go_ret
          rw [hfin.out]; exact ⟨rfl, rfl⟩
end Go.Proofs.YtmeenihnhfhbkaaDoor
/- Names, part 3: the reference's IsName. -/
namespace Go.Proofs.YtmeenihnhfhbkaaDoor
open Go.RowKit Go.Joins

theorem toList_ne {s : ByteArray} (h : s.size ≠ 0) : s.toList.isEmpty = false := by
  cases hs : s.toList.isEmpty with
  | false => rfl
  | true =>
    have h1 : s.toList = [] := by simpa using hs
    have h2 := congrArg List.length h1
    rw [ByteArray.toList_eq] at h2
    simp at h2
    exact absurd h2 (by simpa using h)

set_option maxRecDepth 100000 in
set_option maxHeartbeats 1600000 in
theorem IsNameS_any (s : ByteArray) (w : World) (hs : s.size ≤ 1048576) :
    Calls Tryd.prog 100 #[.string s] w fun e w' => e = .returned (.bool (isNm s.data.toList)) ∧ w = w' := by
  have hsz : s.data.toList.length = s.size := by simp
  have Hsz := Lib.hid hsz; clear hsz
  by_cases h0 : s.size = 0
  · obtain rfl : s = ⟨#[]⟩ := by
      obtain ⟨⟨l⟩⟩ := s
      have : l = [] := List.eq_nil_of_length_eq_zero h0
      rw [this]
    clear h0
    go_enter Tryd.func100, Tryd.ntmps100
    go_wp2_with fail
    go_ret
    exact ⟨rfl, rfl⟩
  · have he := toList_ne h0
    have hp : 0 < s.data.toList.length := by rw [Hsz.out]; omega
    have hp0 : 0 < s.size := by omega
    have hp1 : (0 : Int) < (s.size : Int) := by omega
    by_cases h12 : 12 < s.size
    · have hfin := Lib.hid (isNm_long s.data.toList (by rw [Hsz.out]; exact h12))
      have hq2 : (12 : Int) < (s.size : Int) := by omega
      clear h0
      go_enter Tryd.func100, Tryd.ntmps100
      go_wp2_with fail
      go_ret
      rw [hfin.out]; exact ⟨rfl, rfl⟩
    · have hq2 : (s.size : Int) ≤ 12 := by omega
      have HS := Lib.hid (fun wx => l01Small_any s[0].toNat wx)
      have hx8 := s[0].toNat_lt
      cases hsm : smC s[0].toNat with
      | false =>
        have hfin := Lib.hid (isNm_first s.data.toList hp hsm)
        rw [hsm] at HS
        clear hsm h0
        go_enter Tryd.func100, Tryd.ntmps100
        go_wp2_with fail
        refine (HS.out _).mono ?_; rintro e w1 ⟨rfl, rfl⟩
        go_wp2_with fail
        go_ret
        rw [hfin.out]; exact ⟨rfl, rfl⟩
      | true =>
        have Hyes := Lib.hid (fun h => isNm_yes s.data.toList hp (by rw [Hsz.out]; omega) hsm h)
        rw [hsm] at HS
        clear hsm h0
        go_enter Tryd.func100, Tryd.ntmps100
        go_wp2_with fail
        refine (HS.out _).mono ?_; rintro e w1 ⟨rfl, rfl⟩
        go_wp2_with fail
        go_loop [3] (fun i => ∃ k : Nat, k ≤ s.size ∧ ((s.data.toList.take k).all fun c => okC c.toNat) = true ∧ i = .int .i64 k) (fun i => s.size - (intOf i).toNat)
        case atStart => exact ⟨0, Nat.zero_le _, rfl, rfl⟩
        case round =>
          obtain ⟨k, hk, hall, rfl⟩ := hrel
          have Hall := Lib.hid hall; clear hall
          by_cases hlt : k < s.size
          · have hkl : k < s.data.toList.length := by rw [Hsz.out]; exact hlt
            have Hbad := Lib.hid (show okC s[k].toNat = false → isNm s.data.toList = false from fun h => isNm_bad s.data.toList k hkl h)
            have Hst := Lib.hid (show okC s[k].toNat = true → ((s.data.toList.take (k + 1)).all fun c => okC c.toNat) = true from fun h => all_step s.data.toList k hkl Hall.out h)
            have hx8 := s[k].toNat_lt
            have hx9 : (s[k].toNat : Int) < 256 := by omega
            have HC := Lib.hid (fun wx => l01Small_any s[k].toNat wx)
            have HD := Lib.hid (fun wx => l01Digit_any s[k].toNat wx)
            clear hx8
            have hlt' : (k : Int) < (s.size : Int) := by omega
            cases c1 : smC s[k].toNat with
            | true =>
              have hst := Lib.hid (Hst.out (okC_sm c1))
              rw [c1] at HC
              clear Hbad Hst c1
              go_wp2_with fail
              refine (HC.out _).mono ?_; rintro e w1 ⟨rfl, rfl⟩
              go_wp2_with fail
              go_round
              case rel => exact ⟨k + 1, by omega, hst.out, by go_num⟩
              case measure => simp [intOf]; omega
            | false =>
              rw [c1] at HC
              cases c2 : dgC s[k].toNat with
              | true =>
                have hst := Lib.hid (Hst.out (okC_dg c2))
                rw [c2] at HD
                clear Hbad Hst c1 c2
                go_wp2_with fail
                refine (HC.out _).mono ?_; rintro e w1 ⟨rfl, rfl⟩
                go_wp2_with fail
                refine (HD.out _).mono ?_; rintro e w1 ⟨rfl, rfl⟩
                go_wp2_with fail
                go_round
                case rel => exact ⟨k + 1, by omega, hst.out, by go_num⟩
                case measure => simp [intOf]; omega
              | false =>
                rw [c2] at HD
                by_cases c3 : s[k].toNat = 45
                · have hst := Lib.hid (Hst.out (okC_da c3))
                  have d3 : ((s[k].toNat : Int) != 45) = false := by simp [c3]
                  clear Hbad Hst c1 c2 c3
                  go_wp2_with fail
                  refine (HC.out _).mono ?_; rintro e w1 ⟨rfl, rfl⟩
                  go_wp2_with fail
                  refine (HD.out _).mono ?_; rintro e w1 ⟨rfl, rfl⟩
                  go_wp2_with fail
                  go_round
                  case rel => exact ⟨k + 1, by omega, hst.out, by go_num⟩
                  case measure => simp [intOf]; omega
                · have hfin := Lib.hid (Hbad.out (okC_no c1 c2 c3))
                  have d3 : ((s[k].toNat : Int) != 45) = true := by rw [bne_iff_ne]; omega
                  clear Hbad Hst c1 c2 c3
                  go_wp2_with fail
                  refine (HC.out _).mono ?_; rintro e w1 ⟨rfl, rfl⟩
                  go_wp2_with fail
                  refine (HD.out _).mono ?_; rintro e w1 ⟨rfl, rfl⟩
                  go_wp2_with fail
                  go_ret
                  rw [hfin.out]; exact ⟨rfl, rfl⟩
          · have hfin := Lib.hid (Hyes.out (by
              have := Hall.out
              rwa [List.take_of_length_le (by rw [Hsz.out]; omega)] at this))
            have hlt' : (s.size : Int) ≤ (k : Int) := by omega
            go_wp2_with fail
            go_ret
            rw [hfin.out]; exact ⟨rfl, rfl⟩
end Go.Proofs.YtmeenihnhfhbkaaDoor
/- Entries, part 6: a valid entry, both sides. -/
namespace Go.Proofs.YtmeenihnhfhbkaaDoor
open Go.RowKit Go.Joins

/-- all of the first n -/
def chk (n : Nat) (f : Nat → Bool) : Bool := (List.range n).all f
theorem chk_bad {n : Nat} {f : Nat → Bool} (k : Nat) (hk : k < n) (h : f k = false) : chk n f = false := by
  unfold chk
  rw [List.all_eq_false]
  exact ⟨k, List.mem_range.2 hk, by simp [h]⟩
theorem chk_step {f : Nat → Bool} {k : Nat} (h0 : chk k f = true) (h : f k = true) : chk (k + 1) f = true := by
  unfold chk at *
  rw [List.range_succ, List.all_append, h0]
  simp [h]
def lessS (a b : ByteArray) : Bool := Op.bytesLess a.toList b.toList
theorem bl_tot : ∀ a b : List UInt8, Op.bytesLess a b = !(Op.bytesLess b a || b == a)
  | [], [] => rfl
  | [], _ :: _ => by simp [Op.bytesLess]
  | _ :: _, [] => by simp [Op.bytesLess]
  | a :: x, b :: y => by
    have ih := bl_tot x y
    rcases Nat.lt_trichotomy a.toNat b.toNat with h | h | h
    · have h1 : a < b := UInt8.lt_iff_toNat_lt.2 h
      have h2 : ¬ b < a := fun e => by have := UInt8.lt_iff_toNat_lt.1 e; omega
      have h3 : b ≠ a := fun e => by rw [e] at h; omega
      simp [Op.bytesLess, h1, h2, h3]
    · have h1 : a = b := UInt8.toNat_inj.1 h
      subst h1
      have h2 : ¬ a < a := fun e => by have := UInt8.lt_iff_toNat_lt.1 e; omega
      simp only [Op.bytesLess, h2, ih]
      simp
    · have h1 : ¬ a < b := fun e => by have := UInt8.lt_iff_toNat_lt.1 e; omega
      have h2 : b < a := UInt8.lt_iff_toNat_lt.2 h
      have h3 : a ≠ b := fun e => by rw [e] at h; omega
      simp [Op.bytesLess, h1, h2, h3]
/-- what the two sides ask of neighbours -/
theorem less_yes {a b : ByteArray} (h : lessS a b = true) : (Op.bytesLess b.toList a.toList || b.toList == a.toList) = false ∧ Op.bytesLess b.toList a.toList = false ∧ (b.toList == a.toList) = false ∧ Op.bytesLess a.toList b.toList = true := by
  have h1 := bl_tot a.toList b.toList
  unfold lessS at h
  rw [h] at h1
  have h2 : (Op.bytesLess b.toList a.toList || b.toList == a.toList) = false := by simpa using h1.symm
  have h3 := h2
  rw [Bool.or_eq_false_iff] at h3
  exact ⟨h2, h3.1, h3.2, h⟩
theorem less_no {a b : ByteArray} (h : lessS a b = false) : (Op.bytesLess b.toList a.toList || b.toList == a.toList) = true ∧ Op.bytesLess a.toList b.toList = false := by
  have h1 := bl_tot a.toList b.toList
  unfold lessS at h
  rw [h] at h1
  refine ⟨?_, h⟩
  cases hh : (Op.bytesLess b.toList a.toList || b.toList == a.toList) with
  | true => rfl
  | false => rw [hh] at h1; simp at h1

def wordOk (l : List ByteArray) (i : Nat) : Bool := isNm (l.getD i ⟨#[]⟩).data.toList && (decide (i = 0) || lessS (l.getD (i - 1) ⟨#[]⟩) (l.getD i ⟨#[]⟩))
def entOk (x : Ent) : Bool := inB x.num 1 1000000 && isNm x.name.data.toList && isNm x.maker.data.toList && inB x.year 1000 3000 && decide (x.words.length ≤ 8) && chk x.words.length (wordOk x.words)
theorem getD_at (l : List ByteArray) (k : Nat) (hk : k < l.length) : l.getD k ⟨#[]⟩ = l[k] := by simp [List.getD, hk]
theorem wordOk_nm (l : List ByteArray) (k : Nat) (hk : k < l.length) (h : isNm l[k].data.toList = false) : wordOk l k = false := by unfold wordOk; rw [getD_at l k hk, h]; rfl
theorem wordOk_0 (l : List ByteArray) (hk : 0 < l.length) (h : isNm l[0].data.toList = true) : wordOk l 0 = true := by unfold wordOk; rw [getD_at l 0 hk, h]; rfl
theorem wordOk_s (l : List ByteArray) (k : Nat) (hk : k + 1 < l.length) (h : isNm l[k + 1].data.toList = true) : wordOk l (k + 1) = lessS l[k] l[k + 1] := by
  unfold wordOk
  rw [getD_at l (k + 1) hk, h, show k + 1 - 1 = k by omega, getD_at l k (by omega)]
  simp
theorem entOk_1 {x : Ent} (h : inB x.num 1 1000000 = false) : entOk x = false := by unfold entOk; rw [h]; rfl
theorem entOk_2 {x : Ent} (h : isNm x.name.data.toList = false) : entOk x = false := by unfold entOk; rw [h]; simp
theorem entOk_3 {x : Ent} (h : isNm x.maker.data.toList = false) : entOk x = false := by unfold entOk; rw [h]; simp
theorem entOk_4 {x : Ent} (h : inB x.year 1000 3000 = false) : entOk x = false := by unfold entOk; rw [h]; simp
theorem entOk_5 {x : Ent} (h : 8 < x.words.length) : entOk x = false := by unfold entOk; rw [decide_eq_false (by omega)]; simp
theorem entOk_6 {x : Ent} (h1 : inB x.num 1 1000000 = true) (h2 : isNm x.name.data.toList = true) (h3 : isNm x.maker.data.toList = true) (h4 : inB x.year 1000 3000 = true) (h5 : x.words.length ≤ 8) : entOk x = chk x.words.length (wordOk x.words) := by unfold entOk; rw [h1, h2, h3, h4, decide_eq_true h5]; simp

end Go.Proofs.YtmeenihnhfhbkaaDoor
/- Entries, part 7: a valid entry, the reference's side. -/
namespace Go.Proofs.YtmeenihnhfhbkaaDoor
open Go.RowKit Go.Joins

theorem flipC {P : Program} {f : FuncId} {args : Array Value} {w : World} {v : Value} (h : Calls P f args w fun e w' => e = .returned v ∧ w = w') : Calls P f args w fun e w' => e = .returned v ∧ w' = w :=
  h.mono fun _ _ ⟨a, b⟩ => ⟨a, b.symm⟩

end Go.Proofs.YtmeenihnhfhbkaaDoor
/- Entries, part 8 (regions' steps by heldsteps.py): ValidEntries on both sides. -/
namespace Go.Proofs.YtmeenihnhfhbkaaDoor
open Go.RowKit Go.Joins

def noEnt : Ent := ⟨0, ⟨#[]⟩, ⟨#[]⟩, 0, []⟩
def placeOk (xs : List Ent) (i : Nat) : Bool := entOk (xs.getD i noEnt) && (decide (i = 0) || decide ((xs.getD (i - 1) noEnt).num < (xs.getD i noEnt).num))
def entsOk (xs : List Ent) : Bool := chk xs.length (placeOk xs) && decide (xs.length ≤ 50)
theorem getE_at (l : List Ent) (k : Nat) (hk : k < l.length) : l.getD k noEnt = l[k] := by simp [List.getD, hk]
theorem place_no (l : List Ent) (k : Nat) (hk : k < l.length) (h : entOk l[k] = false) : placeOk l k = false := by unfold placeOk; rw [getE_at l k hk, h]; rfl
theorem place_0 (l : List Ent) (hk : 0 < l.length) (h : entOk l[0] = true) : placeOk l 0 = true := by unfold placeOk; rw [getE_at l 0 hk, h]; rfl
theorem place_s (l : List Ent) (k : Nat) (hk : k + 1 < l.length) (h : entOk l[k + 1] = true) : placeOk l (k + 1) = decide (l[k].num < l[k + 1].num) := by
  unfold placeOk
  rw [getE_at l (k + 1) hk, h, show k + 1 - 1 = k by omega, getE_at l k (by omega)]
  simp
theorem ents_no {l : List Ent} (k : Nat) (hk : k < l.length) (h : placeOk l k = false) : entsOk l = false := by unfold entsOk; rw [chk_bad k hk h]; rfl
theorem five_at {w : World} {g : Nat} {a b c d e : Value} {t : TypeId} (h : w.heap[g]? = some (.cells #[a, b, c, d, e] t (0, 0))) :
    w.cell? ⟨g, 0, none⟩ = some a ∧ w.cell? ⟨g, 1, none⟩ = some b ∧ w.cell? ⟨g, 2, none⟩ = some c ∧ w.cell? ⟨g, 3, none⟩ = some d ∧ w.cell? ⟨g, 4, none⟩ = some e := by
  obtain ⟨h0, h1, h2, h3, h4, _⟩ := blk5 h
  exact ⟨h0, h1, h2, h3, h4⟩
theorem six_at {w : World} {g : Nat} {a b c d e v : Value} {q : Addr} {t : TypeId} (h : w.heap[g]? = some (.cells #[a, b, c, d, e] t (0, 0))) (hq : w.cell? q = some v) :
    w.cell? ⟨g, 0, none⟩ = some a ∧ w.cell? ⟨g, 1, none⟩ = some b ∧ w.cell? ⟨g, 2, none⟩ = some c ∧ w.cell? ⟨g, 3, none⟩ = some d ∧ w.cell? ⟨g, 4, none⟩ = some e ∧ w.cell? q = some v := by
  obtain ⟨h0, h1, h2, h3, h4, _⟩ := blk5 h
  exact ⟨h0, h1, h2, h3, h4, hq⟩

end Go.Proofs.YtmeenihnhfhbkaaDoor
/- Entries, part 5: the reading of an argument; the law FnExactSameEntries. -/
namespace Go.Proofs.YtmeenihnhfhbkaaDoor
open Go.ChangeShapes Go.WideShapes Go.ChangeAt Go.RowKit

section
variable {H : Type} {enc : TypeId × Value → H} {P : Program} {W : World}
theorem rd_strs_cells {T E : Nat} {fuel : Nat} {cs : List Value} {x : DataW H × List MemPlace} (hT : P.underlying T = some (.slice E)) (hE : P.underlying E = some .string) (hC : P.cellsOf E = 1)
    (hf : DataW.trod enc P W 0 (fun _ => true) true fuel T cs = some x) :
    ∃ (v : Value) (zs : List ByteArray), cs = [v] ∧ Rd W W.heap.size v zs.length 1 (Proofs.YtmeenihnhfhbkaaDoor.strs zs) ∧ zs.length ≤ maxLen ∧ ∀ z ∈ zs, z.size ≤ maxLen := by
  rcases open_strings hT hE hC hf with ⟨rfl, hx⟩ | ⟨a, len, cap, zs, rfl, _, hl, hm, hz, hx, hcell, hwz⟩
  · exact ⟨_, [], rfl, ⟨rfl, none, 0, rfl, fun h => by simp at h⟩, by simp [maxLen], by simp⟩
  · have hz' : zs.length = cap := by simpa using hz
    have hlen : (zs.take len).length = len := by rw [List.length_take]; omega
    refine ⟨_, zs.take len, rfl, ?_, by rw [hlen]; omega, fun z hzz => hwz z (List.mem_of_mem_take hzz)⟩
    rw [hlen]
    refine ⟨by simp [Proofs.YtmeenihnhfhbkaaDoor.strs]; omega, some a, cap, rfl, fun hn => ?_⟩
    have h0 := hcell 0 (by omega)
    obtain ⟨b, off, spot⟩ := a
    have hspot : spot = none := by simpa [Addr.add] using World.cell?_spot h0
    subst hspot
    have hc : ∀ j, j < zs.length → W.cell? ⟨b, off + j, none⟩ = some (.string (zs.getD j ByteArray.empty)) := fun j hj => by rw [← Go.WideShapes.add_plain]; exact hcell j hj
    refine ⟨b, off, rfl, World.block_lt_of_cell? W _ (hc 0 (by omega)), fun i u hu => ?_⟩
    have hi : i < len := by
      have := (List.getElem?_eq_some_iff.1 hu).1
      simp [Proofs.YtmeenihnhfhbkaaDoor.strs] at this; omega
    rw [hc i (by omega), ← hu]
    simp [Proofs.YtmeenihnhfhbkaaDoor.strs, hi, List.getD, (show i < zs.length by omega)]
end

open Go.Joins
end Go.Proofs.YtmeenihnhfhbkaaDoor
/- Entries, part 9: ValidEntries on the reference's side; the law. -/
namespace Go.Proofs.YtmeenihnhfhbkaaDoor
open Go.RowKit Go.Joins

end Go.Proofs.YtmeenihnhfhbkaaDoor
/- Similar entries, part 1: finding an entry, a word. -/
namespace Go.Proofs.YtmeenihnhfhbkaaDoor
open Go.RowKit Go.Joins

def findN : List Ent → Int → Nat → Int
  | [], _, _ => -1
  | x :: l, m, k => if x.num = m then (k : Int) else findN l m (k + 1)
theorem findN_at (xs : List Ent) (m : Int) (k : Nat) (hk : k < xs.length) : findN (xs.drop k) m k = if xs[k].num = m then (k : Int) else findN (xs.drop (k + 1)) m (k + 1) := by
  rw [List.drop_eq_getElem_cons hk]; rfl
theorem findN_end (xs : List Ent) (m : Int) (k : Nat) (hk : xs.length ≤ k) : findN (xs.drop k) m k = -1 := by rw [List.drop_of_length_le hk]; rfl
theorem findN_bd (m : Int) : ∀ (xs : List Ent) (k : Nat), findN xs m k = -1 ∨ ∃ i, i < xs.length ∧ findN xs m k = ((k + i : Nat) : Int) := by
  intro xs
  induction xs with
  | nil => intro k; exact .inl rfl
  | cons x l ih =>
    intro k
    unfold findN
    split
    · exact .inr ⟨0, by simp, rfl⟩
    · rcases ih (k + 1) with h | ⟨i, h1, h2⟩
      · exact .inl h
      · exact .inr ⟨i + 1, by simp; omega, by rw [h2]; congr 1; omega⟩
def hasW : List ByteArray → ByteArray → Bool
  | [], _ => false
  | x :: l, s => if x = s then true else hasW l s
theorem hasW_at (ws : List ByteArray) (s : ByteArray) (k : Nat) (hk : k < ws.length) : hasW (ws.drop k) s = if ws[k] = s then true else hasW (ws.drop (k + 1)) s := by
  rw [List.drop_eq_getElem_cons hk]; rfl
theorem hasW_end (ws : List ByteArray) (s : ByteArray) (k : Nat) (hk : ws.length ≤ k) : hasW (ws.drop k) s = false := by rw [List.drop_of_length_le hk]; rfl

/-- the code of an asked number, and where it is -/
def askC (xs : List Ent) (m : Int) : Int := if entsOk xs = false then 1 else if findN xs m 0 < 0 then 3 else 0
def askI (xs : List Ent) (m : Int) : Int := if entsOk xs = false then 0 else if findN xs m 0 < 0 then 0 else findN xs m 0
end Go.Proofs.YtmeenihnhfhbkaaDoor
/- Registers, part 1: the exact laws' helpers: szInt64S, szRegister, toInt64S, eqInt64S. -/
namespace Go.Proofs.YtmeenihnhfhbkaaDoor
open Go.RowKit Go.Joins

def ints (l : List Int) : List Value := l.map (Value.int .i64)
theorem infoI : (Tryd.prog.info? 2).map (fun i => (i.zero, i.size, i.bytes)) = some (some (.int .i64 0), 1, 8) := by kernel_rfl
theorem ints_rd {w : World} {B n c : Nat} {A : Option Addr} {zs : List Int} (h : Rd w B (.slice A n c) zs.length 1 (ints zs)) (k : Nat) (hk : k < zs.length) :
    ∃ b off, A = some ⟨b, off, none⟩ ∧ w.cell? ⟨b, off + k, none⟩ = some (.int .i64 zs[k]) := by
  obtain ⟨_, A', c', hv, hc⟩ := h
  injection hv with e1 e2 e3
  subst e1
  obtain ⟨b, off, hA, _, hcc⟩ := hc (by omega)
  exact ⟨b, off, hA, hcc k _ (by simp [ints, hk])⟩

/-- what is left of the room -/
def leftI (left : Int) (n : Nat) : Int := if left - n < 0 then -1 else left - n
theorem leftI_bd (left : Int) (n : Nat) (h1 : left ≤ 1048576) : leftI left n ≤ 1048576 ∧ (0 ≤ leftI left n → (n : Int) ≤ left) ∧ (leftI left n < 0 → leftI left n = -1) := by
  unfold leftI
  split <;> omega

end Go.Proofs.YtmeenihnhfhbkaaDoor
/- Similar entries, part 2: the words two entries share; the reference's side. -/
namespace Go.Proofs.YtmeenihnhfhbkaaDoor
open Go.RowKit Go.Joins

/-- how many words of the one list the other has -/
def comN : List ByteArray → List ByteArray → Nat
  | [], _ => 0
  | x :: l, b => if hasW b x = true then 1 + comN l b else comN l b
theorem comN_at (ws b : List ByteArray) (k : Nat) (hk : k < ws.length) : comN (ws.drop k) b = if hasW b ws[k] = true then 1 + comN (ws.drop (k + 1)) b else comN (ws.drop (k + 1)) b := by
  rw [List.drop_eq_getElem_cons hk]; rfl
theorem comN_end (ws b : List ByteArray) (k : Nat) (hk : ws.length ≤ k) : comN (ws.drop k) b = 0 := by rw [List.drop_of_length_le hk]; rfl
theorem comN_le : ∀ (ws b : List ByteArray), comN ws b ≤ ws.length := by
  intro ws b
  induction ws with
  | nil => exact Nat.le_refl _
  | cons x l ih => unfold comN; split <;> simp <;> omega

end Go.Proofs.YtmeenihnhfhbkaaDoor
/- Similar entries, part 3: the list; the reference's SimilarEntries. -/
namespace Go.Proofs.YtmeenihnhfhbkaaDoor
open Go.RowKit Go.Joins

def simF : List Ent → Nat → Nat → List ByteArray → Nat → List Int → List Int
  | [], _, _, _, _, out => out
  | x :: l, k, i, b, m, out => if k = i ∨ comN x.words b < m then simF l (k + 1) i b m out else if m < comN x.words b then simF l (k + 1) i b (comN x.words b) [x.num] else simF l (k + 1) i b m (out ++ [x.num])
theorem simF_at (xs : List Ent) (k i : Nat) (b : List ByteArray) (m : Nat) (out : List Int) (hk : k < xs.length) : simF (xs.drop k) k i b m out =
    if k = i ∨ comN xs[k].words b < m then simF (xs.drop (k + 1)) (k + 1) i b m out else if m < comN xs[k].words b then simF (xs.drop (k + 1)) (k + 1) i b (comN xs[k].words b) [xs[k].num] else simF (xs.drop (k + 1)) (k + 1) i b m (out ++ [xs[k].num]) := by
  rw [List.drop_eq_getElem_cons hk]; rfl
theorem simF_end (xs : List Ent) (k i : Nat) (b : List ByteArray) (m : Nat) (out : List Int) (hk : xs.length ≤ k) : simF (xs.drop k) k i b m out = out := by rw [List.drop_of_length_le hk]; rfl
/-- the numbers of the most similar -/
def simL (xs : List Ent) (m : Int) : List Int := if askC xs m = 0 then simF xs 0 (askI xs m).toNat (xs.getD (askI xs m).toNat noEnt).words 1 [] else []
theorem simF_len (i : Nat) (b : List ByteArray) : ∀ (xs : List Ent) (k m : Nat) (out : List Int), (simF xs k i b m out).length ≤ out.length + xs.length := by
  intro xs
  induction xs with
  | nil => intro k m out; exact Nat.le_refl _
  | cons x l ih =>
    intro k m out
    unfold simF
    split
    · have := ih (k + 1) m out; simp; omega
    · split
      · have := ih (k + 1) (comN x.words b) [x.num]; simp at *; omega
      · have := ih (k + 1) m (out ++ [x.num]); simp at *; omega
theorem simL_len (xs : List Ent) (m : Int) : (simL xs m).length ≤ xs.length := by
  unfold simL
  split
  · have := simF_len (askI xs m).toNat (xs.getD (askI xs m).toNat noEnt).words xs 0 1 []; simpa using this
  · simp
theorem sim_cases (xs : List Ent) (m : Int) : (askC xs m ≠ 0 ∧ simL xs m = []) ∨ ∃ (i : Nat) (hi : i < xs.length), askC xs m = 0 ∧ askI xs m = i ∧ entsOk xs = true ∧ findN xs m 0 = i ∧ simL xs m = simF xs 0 i xs[i].words 1 [] := by
  by_cases h : askC xs m = 0
  · right
    have h' := h
    unfold askC at h
    split at h
    · cases h
    · split at h
      · cases h
      · rename_i ho hf
        have ho : entsOk xs = true := by simpa using ho
        rcases findN_bd m xs 0 with e | ⟨i, hi, e⟩
        · omega
        · rw [Nat.zero_add] at e
          have hI : askI xs m = (i : Int) := by
            unfold askI
            rw [if_neg (by simp [ho]), if_neg (by omega), e]
          refine ⟨i, hi, h', hI, ho, e, ?_⟩
          unfold simL
          rw [if_pos h', hI, Int.toNat_natCast, getE_at xs i hi]
  · exact .inl ⟨h, by unfold simL; rw [if_neg h]⟩

/-- a new list of numbers and a code -/
def RetN (code : Int) (zs : List Int) (w : World) (e : Ending) (w' : World) : Prop :=
  ∃ v, e = .returned (.tuple #[v, .int .i64 code]) ∧ w'.ownsRow w.heap.size 2 1 v zs.length (ints zs) ∧ Below w.heap.size w w'
theorem RetN_no {code c2 : Int} {zs : List Int} {w w' : World} (h : zs = []) (hc : c2 = code) (hb : Below w.heap.size w w') : RetN code zs w (.returned (.tuple #[.slice none 0 0, .int .i64 c2])) w' := by
  subst h hc
  exact ⟨_, rfl, World.ownsRow_nil _ _ _ _, hb⟩
theorem RetN_yes {code c2 : Int} {zs l : List Int} {v : Value} {w w' : World} (h : zs = l) (hc : c2 = code) (ho : w'.ownsRow w.heap.size 2 1 v l.length (ints l)) (hb : Below w.heap.size w w') : RetN code zs w (.returned (.tuple #[v, .int .i64 c2])) w' := by
  subst h hc
  exact ⟨_, rfl, ho, hb⟩
theorem ones_one (a : Int) : ∀ u ∈ (#[Value.int .i64 a] : Array Value).toList, u.oneCell' = true := by
  intro u hu
  simp at hu
  subst hu; rfl
theorem ints_one (l : List Int) (a : Int) : ints l ++ (#[Value.int .i64 a] : Array Value).toList = ints (l ++ [a]) := by simp [ints]

end Go.Proofs.YtmeenihnhfhbkaaDoor
/- Similar entries, part 4: the program's SimilarEntries. -/
namespace Go.Proofs.YtmeenihnhfhbkaaDoor
open Go.RowKit Go.Joins

end Go.Proofs.YtmeenihnhfhbkaaDoor
/- Similar entries, part 5: the marks' helpers. -/
namespace Go.Proofs.YtmeenihnhfhbkaaDoor
open Go.RowKit Go.Joins

/-- the digits in front of what is there already -/
def mkD : Nat → Nat → List UInt8 → List UInt8
  | 0, _, out => out
  | f + 1, k, out => if k = 0 then out else mkD f (k / 10) (UInt8.ofNat (48 + k % 10) :: out)
theorem mkD_zero (f : Nat) (out : List UInt8) : mkD f 0 out = out := by cases f <;> simp [mkD]
theorem mkD_step (f m : Nat) (out : List UInt8) (h : 0 < m) (hf : m ≤ f) : ∃ f', mkD f m out = mkD f' (m / 10) (UInt8.ofNat (48 + m % 10) :: out) ∧ m / 10 ≤ f' := by
  cases f with
  | zero => omega
  | succ f => exact ⟨f, by simp [mkD, show m ≠ 0 by omega], by omega⟩
/-- the text of a mark -/
def markT (k : Int) : ByteArray := if k ≤ 0 then ⟨#[109, 48]⟩ else ⟨(109 :: mkD k.toNat k.toNat []).toArray⟩
theorem digB (m : Nat) : IntKind.u8.wrap (48 + (m : Int) % 10) = ((UInt8.ofNat (48 + m % 10)).toNat : Int) := by
  rw [IntKind.wrap_u8]
  simp only [UInt8.toNat_ofNat']
  omega

/-- the marks from k on -/
def marks (k : Int) (n : Nat) : List ByteArray := (List.range n).map fun (i : Nat) => markT (k + (i : Int))
theorem marks_at (k : Int) (n i : Nat) (h : i < n) : (strs (marks k n))[i]? = some (.string (markT (k + (i : Int)))) := by simp [strs, marks, h]
theorem marks_len (k : Int) (n : Nat) : (marks k n).length = n := by simp [marks]

def marksI (k : Int) (n : Nat) : List Int := (List.range n).map fun (i : Nat) => k + (i : Int)
theorem marksI_len (k : Int) (n : Nat) : (marksI k n).length = n := by simp [marksI]
theorem marksI_at (k : Int) (n i : Nat) (h : i < n) : (marksI k n)[i]'(by rw [marksI_len]; exact h) = k + (i : Int) := by simp [marksI]
theorem marksI_succ (k : Int) (n : Nat) : marksI k (n + 1) = marksI k n ++ [k + (n : Int)] := by
  unfold marksI
  rw [List.range_succ, List.map_append]; rfl

end Go.Proofs.YtmeenihnhfhbkaaDoor
/- Loans, part 6: markLoanS. -/
namespace Go.Proofs.YtmeenihnhfhbkaaDoor
open Go.RowKit Go.Joins

def marksL (k : Int) (n : Nat) : List Ln := (List.range n).map fun (i : Nat) => ⟨markT (k + 4 * (i : Int)), markT (k + 4 * (i : Int) + 1), k + 4 * (i : Int) + 1 + 1, k + 4 * (i : Int) + 1 + 1 + 1⟩
theorem marksL_len (k : Int) (n : Nat) : (marksL k n).length = n := by simp [marksL]
theorem marksL_succ (k : Int) (n : Nat) : (marksL k (n + 1)).flatMap cellsL = (marksL k n).flatMap cellsL ++ [.string (markT (k + 4 * (n : Int))), .string (markT (k + 4 * (n : Int) + 1)), .int .i64 (k + 4 * (n : Int) + 1 + 1), .int .i64 (k + 4 * (n : Int) + 1 + 1 + 1)] := by
  unfold marksL
  rw [List.range_succ, List.map_append, List.flatMap_append]; rfl

end Go.Proofs.YtmeenihnhfhbkaaDoor
/- Loans, part 7: heldLoanS. -/
namespace Go.Proofs.YtmeenihnhfhbkaaDoor
open Go.RowKit Go.Joins

theorem marksL_at (k : Int) (n i : Nat) (h : i < n) : (marksL k n)[i]'(by rw [marksL_len]; exact h) = ⟨markT (k + 4 * (i : Int)), markT (k + 4 * (i : Int) + 1), k + 4 * (i : Int) + 1 + 1, k + 4 * (i : Int) + 1 + 1 + 1⟩ := by simp [marksL]

theorem four_kept {W w1 : World} {a b c d : Addr} {x y z t : Value} (hb : Below W.heap.size W w1) (h : W.cell? a = some x ∧ W.cell? b = some y ∧ W.cell? c = some z ∧ W.cell? d = some t) :
    w1.cell? a = some x ∧ w1.cell? b = some y ∧ w1.cell? c = some z ∧ w1.cell? d = some t :=
  have k {p : Addr} {v : Value} (h : W.cell? p = some v) : w1.cell? p = some v := (hb.cell (World.block_lt_of_cell? W _ h)).trans h
  ⟨k h.1, k h.2.1, k h.2.2.1, k h.2.2.2⟩

end Go.Proofs.YtmeenihnhfhbkaaDoor
/- Loans, part 8: one loan's validity, clashes, the order: both sides. -/
namespace Go.Proofs.YtmeenihnhfhbkaaDoor
open Go.RowKit Go.Joins

def loanOk (x : Ln) : Bool := isNm x.what.data.toList && isNm x.who.data.toList && inB x.from_ 0 100000 && inB x.till 0 100000 && decide (x.from_ ≤ x.till)
theorem loan_cases (x : Ln) : (isNm x.what.data.toList = false ∧ loanOk x = false) ∨ (isNm x.what.data.toList = true ∧ isNm x.who.data.toList = false ∧ loanOk x = false) ∨
    (isNm x.what.data.toList = true ∧ isNm x.who.data.toList = true ∧ inB x.from_ 0 100000 = false ∧ loanOk x = false) ∨
    (isNm x.what.data.toList = true ∧ isNm x.who.data.toList = true ∧ inB x.from_ 0 100000 = true ∧ inB x.till 0 100000 = false ∧ loanOk x = false) ∨
    (isNm x.what.data.toList = true ∧ isNm x.who.data.toList = true ∧ inB x.from_ 0 100000 = true ∧ inB x.till 0 100000 = true ∧ loanOk x = decide (x.from_ ≤ x.till)) := by
  unfold loanOk
  cases h1 : isNm x.what.data.toList <;> cases h2 : isNm x.who.data.toList <;> cases h3 : inB x.from_ 0 100000 <;> cases h4 : inB x.till 0 100000 <;> simp

end Go.Proofs.YtmeenihnhfhbkaaDoor
/- Loans, part 9: clashes and the order, both sides. -/
namespace Go.Proofs.YtmeenihnhfhbkaaDoor
open Go.RowKit Go.Joins

def clash (x y : Ln) : Bool := decide (x.what = y.what) && decide (x.from_ ≤ y.till) && decide (y.from_ ≤ x.till)
def before (x y : Ln) : Bool := decide (x.from_ < y.from_) || (decide (x.from_ = y.from_) && lessS x.what y.what)
theorem clash_cases (x y : Ln) : ((x.what.toList == y.what.toList) = false ∧ clash x y = false) ∨ ((x.what.toList == y.what.toList) = true ∧ decide (x.from_ ≤ y.till) = false ∧ clash x y = false) ∨
    ((x.what.toList == y.what.toList) = true ∧ decide (x.from_ ≤ y.till) = true ∧ clash x y = decide (y.from_ ≤ x.till)) := by
  unfold clash
  by_cases h : x.what = y.what
  · rw [h]
    by_cases h1 : x.from_ ≤ y.till <;> simp [h1]
  · exact .inl ⟨beq_eq_false_iff_ne.2 fun e => h (ba_inj e), by simp [h]⟩
theorem before_cases (x y : Ln) : (decide (x.from_ < y.from_) = true ∧ before x y = true) ∨ (decide (x.from_ < y.from_) = false ∧ (x.from_ == y.from_) = false ∧ before x y = false) ∨
    (decide (x.from_ < y.from_) = false ∧ (x.from_ == y.from_) = true ∧ before x y = Op.bytesLess x.what.toList y.what.toList) := by
  unfold before
  change _ ∨ _ ∨ (_ ∧ _ ∧ _ = lessS x.what y.what)
  by_cases h : x.from_ < y.from_
  · simp [h]
  · by_cases h1 : x.from_ = y.from_
    · simp [h1]
    · simp [h, h1]

end Go.Proofs.YtmeenihnhfhbkaaDoor
/- Loans, part 10: valid lists of loans, in plain words; the reference's side. -/
namespace Go.Proofs.YtmeenihnhfhbkaaDoor
open Go.RowKit Go.Joins

def noLn : Ln := ⟨⟨#[]⟩, ⟨#[]⟩, 0, 0⟩
def atL (xs : List Ln) (k : Nat) : Ln := xs.getD k noLn
theorem atL_at (xs : List Ln) (k : Nat) (hk : k < xs.length) : atL xs k = xs[k] := by simp [atL, List.getD, hk]
def freeS (xs : List Ln) (i k : Nat) : Bool := !clash (atL xs k) (atL xs i)
def freeI (xs : List Ln) (i k : Nat) : Bool := !clash (atL xs i) (atL xs k)
def placeS (xs : List Ln) (i : Nat) : Bool := loanOk (atL xs i) && (decide (i = 0) || before (atL xs (i - 1)) (atL xs i)) && chk i (freeS xs i)
def placeI (xs : List Ln) (i : Nat) : Bool := loanOk (atL xs i) && (decide (i = 0) || !before (atL xs i) (atL xs (i - 1))) && chk i (freeI xs i)
def loansOk (xs : List Ln) : Bool := chk xs.length (placeS xs) && decide (xs.length ≤ 60)
def loansOkI (xs : List Ln) : Bool := chk xs.length (placeI xs) && decide (xs.length ≤ 60)
theorem RdL.atD {w : World} {B n c : Nat} {A : Option Addr} {xs : List Ln} (h : RdL w B (.slice A n c) xs) (k : Nat) (hk : k < xs.length) :
    ∃ b off, A = some ⟨b, off, none⟩ ∧ LnAt w B b (off + k * 4) (atL xs k) := by rw [atL_at xs k hk]; exact h.at k hk
theorem chk_succ (f : Nat → Bool) (n : Nat) : chk (n + 1) f = (chk n f && f n) := by
  unfold chk; rw [List.range_succ, List.all_append]; simp
theorem chk_get {f : Nat → Bool} {n k : Nat} (h : chk n f = true) (hk : k < n) : f k = true := by
  unfold chk at h
  exact List.all_eq_true.1 h k (List.mem_range.2 hk)
theorem clash_comm (x y : Ln) : clash x y = clash y x := by
  unfold clash
  rw [Bool.eq_iff_iff]
  simp only [Bool.and_eq_true, decide_eq_true_eq]
  constructor
  · rintro ⟨⟨h1, h2⟩, h3⟩; exact ⟨⟨h1.symm, h3⟩, h2⟩
  · rintro ⟨⟨h1, h2⟩, h3⟩; exact ⟨⟨h1.symm, h3⟩, h2⟩
theorem free_eq (xs : List Ln) (i : Nat) : freeI xs i = freeS xs i := by
  funext k; unfold freeI freeS; rw [clash_comm]
theorem loanOk_le {x : Ln} (h : loanOk x = true) : x.from_ ≤ x.till := by
  unfold loanOk at h
  simp only [Bool.and_eq_true, decide_eq_true_eq] at h
  exact h.2
theorem less_tri {a b : ByteArray} (h : a ≠ b) : lessS a b = !lessS b a := by
  have h1 := bl_tot a.toList b.toList
  have h2 : (b.toList == a.toList) = false := beq_eq_false_iff_ne.2 fun e => h (ba_inj e).symm
  rw [h2, Bool.or_false] at h1
  exact h1
theorem before_flip {x y : Ln} (hx : loanOk x = true) (hy : loanOk y = true) (hc : clash x y = false) : before x y = !before y x := by
  have h1 := loanOk_le hx
  have h2 := loanOk_le hy
  unfold before
  rcases Int.lt_trichotomy x.from_ y.from_ with h | h | h
  · have h3 : ¬ y.from_ < x.from_ := by omega
    have h4 : ¬ y.from_ = x.from_ := by omega
    simp [h, h3, h4]
  · have hw : x.what ≠ y.what := fun e => by
      unfold clash at hc
      rw [e] at hc
      simp at hc
      omega
    have := less_tri hw
    simp [h, this]
  · have h3 : ¬ x.from_ < y.from_ := by omega
    have h4 : ¬ x.from_ = y.from_ := by omega
    simp [h, h3, h4]
theorem place_eq (xs : List Ln) : ∀ n, chk n (placeI xs) = chk n (placeS xs)
  | 0 => rfl
  | n + 1 => by
    rw [chk_succ, chk_succ, place_eq xs n]
    cases hn : chk n (placeS xs) with
    | false => rfl
    | true =>
      simp only [Bool.true_and]
      unfold placeI placeS
      rw [free_eq]
      cases h1 : loanOk (atL xs n) with
      | false => rfl
      | true =>
        cases h2 : chk n (freeS xs n) with
        | false => simp
        | true =>
          rcases Nat.eq_zero_or_pos n with h0 | h0
          · subst h0; rfl
          · have h3 := chk_get hn (show n - 1 < n by omega)
            unfold placeS at h3
            simp only [Bool.and_eq_true] at h3
            have h4 : freeS xs n (n - 1) = true := chk_get h2 (by omega)
            unfold freeS at h4
            rw [before_flip h3.1.1 h1 (by simpa using h4)]
theorem loansOk_eq (xs : List Ln) : loansOkI xs = loansOk xs := by unfold loansOkI loansOk; rw [place_eq]
theorem loans_no {xs : List Ln} (k : Nat) (hk : k < xs.length) (h : placeS xs k = false) : loansOk xs = false := by unfold loansOk; rw [chk_bad k hk h]; rfl
theorem place_1 {xs : List Ln} {k : Nat} (hk : k < xs.length) (h : loanOk xs[k] = false) : placeS xs k = false := by unfold placeS; rw [atL_at xs k hk, h]; rfl
theorem place_2 {xs : List Ln} {k m : Nat} (hk : k < xs.length) (hm : m + 1 = k) (h : before (atL xs m) xs[k] = false) : placeS xs k = false := by
  unfold placeS; rw [atL_at xs k hk, show k - 1 = m by omega, h, decide_eq_false (by omega)]; simp
theorem place_3 {xs : List Ln} {k j : Nat} (hk : k < xs.length) (hj : j < k) (h : clash (atL xs j) xs[k] = true) : placeS xs k = false := by
  have : freeS xs k j = false := by unfold freeS; rw [atL_at xs k hk, h]; rfl
  unfold placeS; rw [chk_bad j hj this]; simp
theorem place_4 {xs : List Ln} {k : Nat} (hk : k < xs.length) (h1 : loanOk xs[k] = true) (h2 : k = 0 ∨ ∃ m, m + 1 = k ∧ before (atL xs m) xs[k] = true) (h : chk k (freeS xs k) = true) : placeS xs k = true := by
  unfold placeS
  rw [atL_at xs k hk, h1, h]
  rcases h2 with rfl | ⟨m, hm, h2⟩
  · rfl
  · rw [show k - 1 = m by omega, h2]; simp
theorem free_step {xs : List Ln} {k j : Nat} (hk : k < xs.length) (h : clash (atL xs j) xs[k] = false) : freeS xs k j = true := by
  unfold freeS; rw [atL_at xs k hk, h]; rfl

/-- what a round meets at place k -/
theorem round_cases (xs : List Ln) (k : Nat) (hk : k < xs.length) : (loanOk xs[k] = false ∧ loansOk xs = false) ∨ (loanOk xs[k] = true ∧ k = 0) ∨
    ∃ m, m + 1 = k ∧ loanOk xs[k] = true ∧ ((before (atL xs m) xs[k] = false ∧ loansOk xs = false) ∨ before (atL xs m) xs[k] = true) := by
  cases h : loanOk xs[k] with
  | false => exact .inl ⟨rfl, loans_no k hk (place_1 hk h)⟩
  | true =>
    rcases Nat.eq_zero_or_pos k with h0 | h0
    · exact .inr (.inl ⟨rfl, h0⟩)
    · refine .inr (.inr ⟨k - 1, by omega, rfl, ?_⟩)
      cases hb : before (atL xs (k - 1)) xs[k] with
      | false => exact .inl ⟨rfl, loans_no k hk (place_2 hk (by omega) hb)⟩
      | true => exact .inr rfl

end Go.Proofs.YtmeenihnhfhbkaaDoor
/- Loans, part 11 (printed by genlo11.py): valid lists of loans, the program's side. -/
namespace Go.Proofs.YtmeenihnhfhbkaaDoor
open Go.RowKit Go.Joins

theorem four_at {w : World} {g : Nat} {a b c d : Value} {t : TypeId} (h : w.heap[g]? = some (.cells #[a, b, c, d] t (0, 0))) :
    w.cell? ⟨g, 0, none⟩ = some a ∧ w.cell? ⟨g, 1, none⟩ = some b ∧ w.cell? ⟨g, 2, none⟩ = some c ∧ w.cell? ⟨g, 3, none⟩ = some d := by
  refine ⟨?_, ?_, ?_, ?_⟩
  · rw [cell_of_row w g 0 _ _ _ h]; rfl
  · rw [cell_of_row w g 1 _ _ _ h]; rfl
  · rw [cell_of_row w g 2 _ _ _ h]; rfl
  · rw [cell_of_row w g 3 _ _ _ h]; rfl
theorem eight_at {w : World} {g B b1 o1 : Nat} {a b c d : Value} {t : TypeId} {p : Ln} (h : w.heap[g]? = some (.cells #[a, b, c, d] t (0, 0))) (hp : LnAt w B b1 o1 p) :
    w.cell? ⟨g, 0, none⟩ = some a ∧ w.cell? ⟨g, 1, none⟩ = some b ∧ w.cell? ⟨g, 2, none⟩ = some c ∧ w.cell? ⟨g, 3, none⟩ = some d ∧
    w.cell? ⟨b1, o1, none⟩ = some (.string p.what) ∧ w.cell? ⟨b1, o1 + 1, none⟩ = some (.string p.who) ∧ w.cell? ⟨b1, o1 + 2, none⟩ = some (.int .i64 p.from_) ∧ w.cell? ⟨b1, o1 + 3, none⟩ = some (.int .i64 p.till) :=
  have k := four_at h
  ⟨k.1, k.2.1, k.2.2.1, k.2.2.2, hp.c0, hp.c1, hp.c2, hp.c3⟩
theorem loansI_no {xs : List Ln} (k : Nat) (hk : k < xs.length) (h : placeI xs k = false) : loansOkI xs = false := by unfold loansOkI; rw [chk_bad k hk h]; rfl
theorem round_casesI (xs : List Ln) (k : Nat) (hk : k < xs.length) : (loanOk xs[k] = false ∧ loansOkI xs = false) ∨ (loanOk xs[k] = true ∧ k = 0) ∨
    ∃ m, m + 1 = k ∧ loanOk xs[k] = true ∧ ((before xs[k] (atL xs m) = true ∧ loansOkI xs = false) ∨ before xs[k] (atL xs m) = false) := by
  cases h : loanOk xs[k] with
  | false => exact .inl ⟨rfl, loansI_no k hk (by unfold placeI; rw [atL_at xs k hk, h]; rfl)⟩
  | true =>
    rcases Nat.eq_zero_or_pos k with h0 | h0
    · exact .inr (.inl ⟨rfl, h0⟩)
    · refine .inr (.inr ⟨k - 1, by omega, rfl, ?_⟩)
      cases hb : before xs[k] (atL xs (k - 1)) with
      | true => exact .inl ⟨rfl, loansI_no k hk (by unfold placeI; rw [atL_at xs k hk, h, hb, decide_eq_false (by omega)]; simp)⟩
      | false => exact .inr rfl
theorem placeI_3 {xs : List Ln} {k : Nat} (hk : k < xs.length) (j : Nat) (hj : j < k) (h : clash xs[k] (atL xs j) = true) : loansOkI xs = false := by
  have : freeI xs k j = false := by unfold freeI; rw [atL_at xs k hk, h]; rfl
  refine loansI_no k hk ?_
  unfold placeI; rw [chk_bad j hj this]; simp
theorem placeI_4 {xs : List Ln} {k : Nat} (hk : k < xs.length) (h0 : chk k (placeI xs) = true) (h1 : loanOk xs[k] = true) (h2 : k = 0 ∨ ∃ m, m + 1 = k ∧ before xs[k] (atL xs m) = false) (h : chk k (freeI xs k) = true) : chk (k + 1) (placeI xs) = true := by
  refine chk_step h0 ?_
  unfold placeI
  rw [atL_at xs k hk, h1, h]
  rcases h2 with rfl | ⟨m, hm, h2⟩
  · rfl
  · rw [show k - 1 = m by omega, h2]; simp
theorem freeI_step {xs : List Ln} {k : Nat} (hk : k < xs.length) (j : Nat) (h : clash xs[k] (atL xs j) = false) : freeI xs k j = true := by
  unfold freeI; rw [atL_at xs k hk, h]; rfl

end Go.Proofs.YtmeenihnhfhbkaaDoor
/- Blocks of four cells. -/
namespace Go.Proofs.YtmeenihnhfhbkaaDoor
open Go.RowKit Go.Joins

abbrev put4 (w : World) (g : Nat) (a b c d : Value) : World := (((w.setCell ⟨g, 0, none⟩ a).setCell ⟨g, 1, none⟩ b).setCell ⟨g, 2, none⟩ c).setCell ⟨g, 3, none⟩ d
theorem blk4 {w : World} {g : Nat} {a b c d : Value} {t : TypeId} (h : w.heap[g]? = some (.cells #[a, b, c, d] t (0, 0))) :
    (w.cell? ⟨g, 0, none⟩ = some a ∧ w.cell? ⟨g, 1, none⟩ = some b ∧ w.cell? ⟨g, 2, none⟩ = some c ∧ w.cell? ⟨g, 3, none⟩ = some d) ∧
    (w.frozen? ⟨g, 0, none⟩ = false ∧ w.frozen? ⟨g, 1, none⟩ = false ∧ w.frozen? ⟨g, 2, none⟩ = false ∧ w.frozen? ⟨g, 3, none⟩ = false) :=
  ⟨four_at h, frozen_of_row w g 0 _ _ h, frozen_of_row w g 1 _ _ h, frozen_of_row w g 2 _ _ h, frozen_of_row w g 3 _ _ h⟩
/-- a result of four fields in a block of its own: ahead of the store -/
theorem res4_pre {w w2 : World} {x y z u : Value} {t : TypeId} (h : Below (w.alloc (.cells #[x, y, z, u] t)).heap.size (w.alloc (.cells #[x, y, z, u] t)) w2) :
    (w2.cell? ⟨w.heap.size, 0, none⟩ = some x ∧ w2.cell? ⟨w.heap.size, 1, none⟩ = some y ∧ w2.cell? ⟨w.heap.size, 2, none⟩ = some z ∧ w2.cell? ⟨w.heap.size, 3, none⟩ = some u) ∧
    (w2.frozen? ⟨w.heap.size, 0, none⟩ = false ∧ w2.frozen? ⟨w.heap.size, 1, none⟩ = false ∧ w2.frozen? ⟨w.heap.size, 2, none⟩ = false ∧ w2.frozen? ⟨w.heap.size, 3, none⟩ = false) :=
  blk4 ((h.block w.heap.size (by simp)).trans (heap_alloc_new w _))
/-- .. and behind it -/
theorem res4_post {w w2 : World} {x y z u : Value} {t : TypeId} (h : Below (w.alloc (.cells #[x, y, z, u] t)).heap.size (w.alloc (.cells #[x, y, z, u] t)) w2) (a b c d : Value) :
    ((put4 w2 w.heap.size a b c d).cell? ⟨w.heap.size, 0, none⟩ = some a ∧ (put4 w2 w.heap.size a b c d).cell? ⟨w.heap.size, 1, none⟩ = some b ∧ (put4 w2 w.heap.size a b c d).cell? ⟨w.heap.size, 2, none⟩ = some c ∧ (put4 w2 w.heap.size a b c d).cell? ⟨w.heap.size, 3, none⟩ = some d) ∧
    Below w.heap.size w (put4 w2 w.heap.size a b c d) := by
  have g := heap_setCell_same _ w.heap.size 3 _ _ d (heap_setCell_same _ w.heap.size 2 _ _ c (heap_setCell_same _ w.heap.size 1 _ _ b (heap_setCell_same w2 w.heap.size 0 _ _ a ((h.block w.heap.size (by simp)).trans (heap_alloc_new w _)))))
  refine ⟨(blk4 g).1, ?_⟩
  have h0 : Below w.heap.size w w2 := ((Below.refl w.heap.size w).alloc (Nat.le_refl _) _).trans (h.mono (by simp))
  exact (((h0.setCell (p := ⟨w.heap.size, 0, none⟩) (Nat.le_refl _) a).setCell (p := ⟨w.heap.size, 1, none⟩) (Nat.le_refl _) b).setCell (p := ⟨w.heap.size, 2, none⟩) (Nat.le_refl _) c).setCell (p := ⟨w.heap.size, 3, none⟩) (Nat.le_refl _) d
end Go.Proofs.YtmeenihnhfhbkaaDoor
/- Fractions, part 3: AddFractions, both sides. -/
namespace Go.Proofs.YtmeenihnhfhbkaaDoor
open Go.RowKit Go.Joins

def big1 (a b : Int) : Bool := decide (1000000 < a.natAbs) || decide (1000000 < b)
theorem adBig_eq (a b c d : Int) : adBig a b c d = (big1 a b || big1 c d) := by unfold adBig big1; rfl
theorem adBad {a b c d : Int} (h : (okQ a b && okQ c d) = false) : adN a b c d = 0 ∧ adD a b c d = 0 ∧ adC a b c d = 1 := ⟨(ad_bad h).2.1, (ad_bad h).2.2, (ad_bad h).1⟩
theorem adBg {a b c d : Int} (h : (okQ a b && okQ c d) = true) (h2 : adBig a b c d = true) : adN a b c d = 0 ∧ adD a b c d = 0 ∧ adC a b c d = 2 := ⟨(ad_big h h2).2.1, (ad_big h h2).2.2, (ad_big h h2).1⟩
theorem adS_nat {a c : Int} {p q : Nat} : adS a (p : Int) c (q : Int) = (lowN (a * (q : Int) + c * (p : Int)) (p * q), lowD (a * (q : Int) + c * (p : Int)) (p * q)) := rfl
theorem adFull {a c : Int} {p q : Nat} (h : (okQ a p && okQ c q) = true) (h2 : adBig a p c q = false) (h3 : okQ (lowN (a * (q : Int) + c * (p : Int)) (p * q)) (lowD (a * (q : Int) + c * (p : Int)) (p * q)) = false) : adN a p c q = 0 ∧ adD a p c q = 0 ∧ adC a p c q = 5 :=
  have k := ad_full h h2 h3
  ⟨k.2.1, k.2.2, k.1⟩
theorem adOk {a c : Int} {p q : Nat} (h : (okQ a p && okQ c q) = true) (h2 : adBig a p c q = false) (h3 : okQ (lowN (a * (q : Int) + c * (p : Int)) (p * q)) (lowD (a * (q : Int) + c * (p : Int)) (p * q)) = true) :
    adN a p c q = lowN (a * (q : Int) + c * (p : Int)) (p * q) ∧ adD a p c q = lowD (a * (q : Int) + c * (p : Int)) (p * q) ∧ adC a p c q = 0 :=
  have k := ad_ok h h2 h3
  ⟨k.2.1, k.2.2, k.1⟩
/-- the sum of plain fractions -/
theorem sumPlain_any {a c : Int} {p q : Nat} (w : World) (h1 : okQ a p = true) (h2 : okQ c q = true) (hb : adBig a p c q = false) :
    Calls Tryd.prog 50 #[aggQ a (p : Int), aggQ c (q : Int)] w (RetQ (lowN (a * (q : Int) + c * (p : Int)) (p * q)) (lowD (a * (q : Int) + c * (p : Int)) (p * q)) w) := by
  obtain ⟨a1, a2, _⟩ := okQ_iff.1 h1
  obtain ⟨c1, c2, _⟩ := okQ_iff.1 h2
  rw [adBig_eq] at hb
  unfold big1 at hb
  simp only [Bool.or_eq_false_iff, decide_eq_false_iff_not] at hb
  obtain ⟨⟨b1, b2⟩, b3, b4⟩ := hb
  have hM : p * q ≤ 1000000 * 1000000 := Nat.mul_le_mul (by omega) (by omega)
  have hMp : 0 < p * q := Nat.mul_pos (by omega) (by omega)
  have x1 : (a * (q : Int)).natAbs ≤ 1000000 * 1000000 := by rw [Int.natAbs_mul, Int.natAbs_natCast]; exact Nat.mul_le_mul (by omega) (by omega)
  have x2 : (c * (p : Int)).natAbs ≤ 1000000 * 1000000 := by rw [Int.natAbs_mul, Int.natAbs_natCast]; exact Nat.mul_le_mul (by omega) (by omega)
  have k := sum_any (a * (q : Int)) (c * (p : Int)) (p * q) w hMp (by omega) (by omega) (by omega)
  have l1 := okQ_lows h1 (t := q) (by omega)
  have l2 := okQ_lows h2 (t := p) (by omega)
  rw [Int.toNat_natCast] at l1 l2
  rw [Nat.mul_comm] at l2
  obtain ⟨e1, e2⟩ := Prod.mk.inj l1
  obtain ⟨e3, e4⟩ := Prod.mk.inj l2
  rw [e1, e2, e3, e4] at k
  exact k
theorem sumBounds {a c : Int} {p q : Nat} (h1 : okQ a p = true) (h2 : okQ c q = true) (hb : adBig a p c q = false) :
    (a * (q : Int)).natAbs ≤ 1000000000000 ∧ (c * (p : Int)).natAbs ≤ 1000000000000 ∧ p * q ≤ 1000000000000 ∧ 0 < p * q := by
  obtain ⟨a1, a2, _⟩ := okQ_iff.1 h1
  obtain ⟨c1, c2, _⟩ := okQ_iff.1 h2
  rw [adBig_eq] at hb
  unfold big1 at hb
  simp only [Bool.or_eq_false_iff, decide_eq_false_iff_not] at hb
  obtain ⟨⟨b1, b2⟩, b3, b4⟩ := hb
  refine ⟨?_, ?_, Nat.le_trans (Nat.mul_le_mul (show p ≤ 1000000 by omega) (show q ≤ 1000000 by omega)) (by omega), Nat.mul_pos (by omega) (by omega)⟩
  · rw [Int.natAbs_mul, Int.natAbs_natCast]; exact Nat.le_trans (Nat.mul_le_mul (show a.natAbs ≤ 1000000 by omega) (show q ≤ 1000000 by omega)) (by omega)
  · rw [Int.natAbs_mul, Int.natAbs_natCast]; exact Nat.le_trans (Nat.mul_le_mul (show c.natAbs ≤ 1000000 by omega) (show p ≤ 1000000 by omega)) (by omega)
theorem blocks3 (w : World) (a b c d : Value) (t : TypeId) (ht : t = 25) : ∃ w3, w3 = ((w.alloc (.cells #[a, b] t)).alloc (.cells #[c, d] t)).alloc (.cells #[.int .i64 0, .int .i64 0] t) ∧ Q2 w3 w.heap.size a b ∧ Q2 w3 (w.heap.size + 1) c d ∧ FrB w w3 (w.heap.size + 1 + 1) (.int .i64 0) (.int .i64 0) := by
  subst ht
  obtain ⟨h1, h2, hr, hb⟩ := three_blocks w a b c d (.int .i64 0) (.int .i64 0) 25
  have hl := blk_ltF hr
  exact ⟨_, rfl, ⟨by omega, h1⟩, ⟨by omega, h2⟩, ⟨hr, hb, by omega⟩⟩
set_option maxRecDepth 100000 in
set_option maxHeartbeats 6400000 in
theorem AddI_any (a b c d : Int) (w : World) : Calls Tryd.prog 7 #[aggQ a b, aggQ c d] w (RetQC (adN a b c d) (adD a b c d) (adC a b c d) w) := by
  obtain ⟨w3, hw3, hq1, hq2, hr⟩ := blocks3 w (.int .i64 a) (.int .i64 b) (.int .i64 c) (.int .i64 d) 25 rfl
  have HA := Lib.hid hq1
  have HB := Lib.hid hq2
  have HR := Lib.hid hr
  clear hq1 hq2 hr
  go_enter Tryd.func7, Tryd.ntmps7
  go_upto_region 1 with (fail)
  rw [← hw3]
  clear hw3
  have HP := Lib.hid (fun x y wx => isPlain_any x y wx)
  obtain ⟨a0, a1⟩ := HA.out.c
  go_wp2_with fail
  refine (HP.out _ _ _).mono ?_; rintro e w4 ⟨rfl, hb⟩
  have HA' := Lib.hid (HA.out.below hb)
  clear HA
  have HA := HA'
  clear HA'
  have HB' := Lib.hid (HB.out.below hb)
  clear HB
  have HB := HB'
  clear HB'
  have HR' := Lib.hid (HR.out.below hb)
  clear HR
  have HR := HR'
  clear HR'
  clear hb
  clear a0 a1
  cases h1 : okQ a b with
  | false =>
    have Hr := Lib.hid (adBad (a := a) (b := b) (c := c) (d := d) (by rw [h1]; rfl))
    have HF := Lib.hid (HR.out.put (.int .i64 0) (.int .i64 0))
    obtain ⟨k0, k1, _, _⟩ := blk2 HF.out.res
    obtain ⟨r0, r1, r2, r3⟩ := blk2 HR.out.res
    go_wp2_with fail
    exact bodyPost_ret (v := .tuple #[aggQ 0 0, .int .i64 1]) (by simp [results, Tryd.results7, go_sem, k0, k1]) rfl ⟨by rw [Hr.out.1, Hr.out.2.1, Hr.out.2.2], HF.out.bel⟩
  | true =>
    obtain ⟨b0, b1⟩ := HB.out.c
    go_wp2_with fail
    refine (HP.out _ _ _).mono ?_; rintro e w5 ⟨rfl, hb⟩
    have HA' := Lib.hid (HA.out.below hb)
    clear HA
    have HA := HA'
    clear HA'
    have HB' := Lib.hid (HB.out.below hb)
    clear HB
    have HB := HB'
    clear HB'
    have HR' := Lib.hid (HR.out.below hb)
    clear HR
    have HR := HR'
    clear HR'
    clear hb
    clear b0 b1
    cases h2 : okQ c d with
    | false =>
      have Hr := Lib.hid (adBad (a := a) (b := b) (c := c) (d := d) (by rw [h1, h2]; rfl))
      have HF := Lib.hid (HR.out.put (.int .i64 0) (.int .i64 0))
      obtain ⟨k0, k1, _, _⟩ := blk2 HF.out.res
      obtain ⟨r0, r1, r2, r3⟩ := blk2 HR.out.res
      go_wp2_with fail
      exact bodyPost_ret (v := .tuple #[aggQ 0 0, .int .i64 1]) (by simp [results, Tryd.results7, go_sem, k0, k1]) rfl ⟨by rw [Hr.out.1, Hr.out.2.1, Hr.out.2.2], HF.out.bel⟩
    | true =>
      have hab : (okQ a b && okQ c d) = true := by rw [h1, h2]; rfl
      obtain ⟨ra, rb, _⟩ := okQ_iff.1 h1
      obtain ⟨rc, rd, _⟩ := okQ_iff.1 h2
      obtain ⟨p, rfl⟩ : ∃ p : Nat, b = (p : Int) := ⟨b.toNat, by omega⟩
      obtain ⟨q, rfl⟩ : ∃ q : Nat, d = (q : Int) := ⟨d.toNat, by omega⟩
      have HX1 := Lib.hid (fun wx => absolute_any a wx (by omega) (by omega))
      have HX2 := Lib.hid (fun wx => absolute_any c wx (by omega) (by omega))
      obtain ⟨a0, a1⟩ := HA.out.c
      obtain ⟨b0, b1⟩ := HB.out.c
      obtain ⟨⟨e0, e1, e2, e3⟩, _⟩ := blk4 (heap_alloc_new w5 (.cells #[.int .i64 a, .int .i64 (p : Int), .int .i64 c, .int .i64 (q : Int)] 25))
      have hbS := (Below.refl w5.heap.size w5).alloc (Nat.le_refl _) (.cells #[.int .i64 a, .int .i64 (p : Int), .int .i64 c, .int .i64 (q : Int)] 25)
      have HA' := Lib.hid (HA.out.below hbS)
      have HB' := Lib.hid (HB.out.below hbS)
      have HR' := Lib.hid (HR.out.below hbS)
      have hgS : w5.heap.size < (w5.alloc (.cells #[.int .i64 a, .int .i64 (p : Int), .int .i64 c, .int .i64 (q : Int)] 25)).heap.size := by simp
      clear HA HB HR hbS
      have HA := HA'
      have HB := HB'
      have HR := HR'
      clear HA' HB' HR'
      go_upto_region 3 with (fail)
      go_wp2_with fail
      generalize w5.alloc (.cells #[.int .i64 a, .int .i64 (p : Int), .int .i64 c, .int .i64 (q : Int)] 25) = wS at *
      generalize w5.heap.size = gS at *
      clear a0 a1 b0 b1
      go_loopw [22] (fun i wr => ∃ k : Nat, k ≤ 2 ∧ i = .int .i64 (k : Int) ∧ Below wS.heap.size wS wr ∧ (1 ≤ k → big1 a (p : Int) = false) ∧ (2 ≤ k → big1 c (q : Int) = false)) (fun i _ => 2 - (intOf i).toNat)
      case atStart => exact ⟨0, by omega, rfl, Below.refl _ _, fun h => by omega, fun h => by omega⟩
      case round =>
        obtain ⟨k, hk, rfl, hbl, hx1, hx2⟩ := hrel
        have f0 := (hbl.cell (p := ⟨gS, 0, none⟩) hgS).trans e0
        have f1 := (hbl.cell (p := ⟨gS, 1, none⟩) hgS).trans e1
        have f2 := (hbl.cell (p := ⟨gS, 2, none⟩) hgS).trans e2
        have f3 := (hbl.cell (p := ⟨gS, 3, none⟩) hgS).trans e3
        have HA' := Lib.hid (HA.out.below hbl)
        have HB' := Lib.hid (HB.out.below hbl)
        have HR' := Lib.hid (HR.out.below hbl)
        have Hbl := Lib.hid hbl
        have H1 := Lib.hid hx1
        have H2 := Lib.hid hx2
        clear HA HB HR hbl hx1 hx2 e0 e1 e2 e3 hgS
        have HA := HA'
        have HB := HB'
        have HR := HR'
        clear HA' HB' HR'
        rcases (show k = 0 ∨ k = 1 ∨ k = 2 by omega) with hkk | hkk | hkk
        · subst hkk
          have Hb2 := Lib.hid (Hbl.out.trans (((Below.refl wr.heap.size wr).alloc (Nat.le_refl _) (.cells #[.int .i64 a, .int .i64 (p : Int)] 25)).mono Hbl.out.size))
          have HR3 := Lib.hid (HR.out.alloc (.cells #[.int .i64 a, .int .i64 (p : Int)] 25))
          by_cases t1 : 1000000 < a.natAbs
          · have t1' : (1000000 : Int) < (a.natAbs : Int) := by omega
            have hbg : big1 a (p : Int) = true := by unfold big1; rw [decide_eq_true t1]; rfl
            have Hr := Lib.hid (adBg hab (by rw [adBig_eq, hbg]; simp))
            clear hbg
            obtain ⟨r0, r1, r2, r3⟩ := blk2 HR3.out.res
            go_wp2_with fail
            refine (HX1.out _).mono ?_; rintro e w1 ⟨rfl, rfl⟩
            go_wp2_with fail
            have HF := Lib.hid (HR3.out.put (.int .i64 0) (.int .i64 0))
            obtain ⟨k0, k1, _, _⟩ := blk2 HF.out.res
            go_wp2_with fail
            exact bodyPost_ret (v := .tuple #[aggQ 0 0, .int .i64 2]) (by simp [results, Tryd.results7, go_sem, k0, k1]) rfl ⟨by rw [Hr.out.1, Hr.out.2.1, Hr.out.2.2], HF.out.bel⟩
          by_cases t2 : (1000000 : Int) < (p : Int)
          · have t1' : (a.natAbs : Int) ≤ (1000000 : Int) := by omega
            have hbg : big1 a (p : Int) = true := by unfold big1; rw [decide_eq_true t2]; simp
            have Hr := Lib.hid (adBg hab (by rw [adBig_eq, hbg]; simp))
            clear hbg
            obtain ⟨r0, r1, r2, r3⟩ := blk2 HR3.out.res
            go_wp2_with fail
            refine (HX1.out _).mono ?_; rintro e w1 ⟨rfl, rfl⟩
            go_wp2_with fail
            have HF := Lib.hid (HR3.out.put (.int .i64 0) (.int .i64 0))
            obtain ⟨k0, k1, _, _⟩ := blk2 HF.out.res
            go_wp2_with fail
            exact bodyPost_ret (v := .tuple #[aggQ 0 0, .int .i64 2]) (by simp [results, Tryd.results7, go_sem, k0, k1]) rfl ⟨by rw [Hr.out.1, Hr.out.2.1, Hr.out.2.2], HF.out.bel⟩
          have t1' : (a.natAbs : Int) ≤ (1000000 : Int) := by omega
          have hbg : big1 a (p : Int) = false := by unfold big1; rw [decide_eq_false t1, decide_eq_false t2]; rfl
          have Hbg := Lib.hid hbg
          clear hbg
          go_wp2_with fail
          refine (HX1.out _).mono ?_; rintro e w1 ⟨rfl, rfl⟩
          go_wp2_with fail
          go_roundw
          case rel => exact ⟨1, by omega, rfl, Hb2.out, fun _ => Hbg.out, fun h => by omega⟩
          case measure => first | (simp [intOf]; done) | (simp [intOf]; omega)
        · subst hkk
          have Hb2 := Lib.hid (Hbl.out.trans (((Below.refl wr.heap.size wr).alloc (Nat.le_refl _) (.cells #[.int .i64 c, .int .i64 (q : Int)] 25)).mono Hbl.out.size))
          have HR3 := Lib.hid (HR.out.alloc (.cells #[.int .i64 c, .int .i64 (q : Int)] 25))
          by_cases t1 : 1000000 < c.natAbs
          · have t1' : (1000000 : Int) < (c.natAbs : Int) := by omega
            have hbg : big1 c (q : Int) = true := by unfold big1; rw [decide_eq_true t1]; rfl
            have Hr := Lib.hid (adBg hab (by rw [adBig_eq, hbg]; simp))
            clear hbg
            obtain ⟨r0, r1, r2, r3⟩ := blk2 HR3.out.res
            go_wp2_with fail
            refine (HX2.out _).mono ?_; rintro e w1 ⟨rfl, rfl⟩
            go_wp2_with fail
            have HF := Lib.hid (HR3.out.put (.int .i64 0) (.int .i64 0))
            obtain ⟨k0, k1, _, _⟩ := blk2 HF.out.res
            go_wp2_with fail
            exact bodyPost_ret (v := .tuple #[aggQ 0 0, .int .i64 2]) (by simp [results, Tryd.results7, go_sem, k0, k1]) rfl ⟨by rw [Hr.out.1, Hr.out.2.1, Hr.out.2.2], HF.out.bel⟩
          by_cases t2 : (1000000 : Int) < (q : Int)
          · have t1' : (c.natAbs : Int) ≤ (1000000 : Int) := by omega
            have hbg : big1 c (q : Int) = true := by unfold big1; rw [decide_eq_true t2]; simp
            have Hr := Lib.hid (adBg hab (by rw [adBig_eq, hbg]; simp))
            clear hbg
            obtain ⟨r0, r1, r2, r3⟩ := blk2 HR3.out.res
            go_wp2_with fail
            refine (HX2.out _).mono ?_; rintro e w1 ⟨rfl, rfl⟩
            go_wp2_with fail
            have HF := Lib.hid (HR3.out.put (.int .i64 0) (.int .i64 0))
            obtain ⟨k0, k1, _, _⟩ := blk2 HF.out.res
            go_wp2_with fail
            exact bodyPost_ret (v := .tuple #[aggQ 0 0, .int .i64 2]) (by simp [results, Tryd.results7, go_sem, k0, k1]) rfl ⟨by rw [Hr.out.1, Hr.out.2.1, Hr.out.2.2], HF.out.bel⟩
          have t1' : (c.natAbs : Int) ≤ (1000000 : Int) := by omega
          have hbg : big1 c (q : Int) = false := by unfold big1; rw [decide_eq_false t1, decide_eq_false t2]; rfl
          have Hbg := Lib.hid hbg
          clear hbg
          go_wp2_with fail
          refine (HX2.out _).mono ?_; rintro e w1 ⟨rfl, rfl⟩
          go_wp2_with fail
          go_roundw
          case rel => exact ⟨2, by omega, rfl, Hb2.out, fun _ => H1.out (by omega), fun _ => Hbg.out⟩
          case measure => first | (simp [intOf]; done) | (simp [intOf]; omega)
        · subst hkk
          have hbig : adBig a (p : Int) c (q : Int) = false := by rw [adBig_eq, H1.out (by omega), H2.out (by omega)]; rfl
          have HS := Lib.hid (sumBounds h1 h2 hbig)
          obtain ⟨s1, s2, s3, s4⟩ := HS.out
          have HFu := Lib.hid (fun h => adFull hab hbig h)
          have HOk := Lib.hid (fun h => adOk hab hbig h)
          have HSu := Lib.hid (fun wx => sumPlain_any wx h1 h2 hbig)
          unfold RetQ at HSu
          generalize lowN (a * (q : Int) + c * (p : Int)) (p * q) = N at *
          generalize lowD (a * (q : Int) + c * (p : Int)) (p * q) = D at *
          clear s1 s2 s3 s4
          obtain ⟨a0, a1⟩ := HA.out.c
          obtain ⟨b0, b1⟩ := HB.out.c
          go_wp2_with fail
          refine (HSu.out _).mono ?_; rintro e w7 ⟨rfl, hb⟩
          have HR' := Lib.hid (HR.out.below hb)
          have Hlt := Lib.hid (blk_ltF HR'.out.res)
          clear HR
          have HR := HR'
          clear HR' hb
          go_upto_region 10 with (fail)
          have HT := Lib.hid (Q2.new w7 (.int .i64 N) (.int .i64 (D : Int)) 25)
          have HR8 := Lib.hid (HR.out.alloc (.cells #[.int .i64 N, .int .i64 (D : Int)] 25))
          clear HA HB HR
          generalize w7.alloc (.cells #[.int .i64 N, .int .i64 (D : Int)] 25) = w8 at *
          have ht3 : w.heap.size < w7.heap.size := by have := HR8.out.lr; have := HT.out.lt; have := Hlt.out; omega
          generalize hg : w7.heap.size = t at *
          have Hg := Lib.hid hg
          clear hg
          obtain ⟨t0, t1⟩ := HT.out.c
          go_wp2_with fail
          refine (HP.out _ _ _).mono ?_; rintro e w9 ⟨rfl, hb⟩
          have HR9 := Lib.hid (HR8.out.below hb)
          have HT9 := Lib.hid (HT.out.below hb)
          clear hb t0 t1 HR8 HT
          cases ho : okQ N (D : Int) with
          | false =>
            have Hr := Lib.hid (HFu.out ho)
            have HF := Lib.hid (HR9.out.put (.int .i64 0) (.int .i64 0))
            obtain ⟨k0, k1, _, _⟩ := blk2 HF.out.res
            obtain ⟨r0, r1, r2, r3⟩ := blk2 HR9.out.res
            go_wp2_with fail
            exact bodyPost_ret (v := .tuple #[aggQ 0 0, .int .i64 5]) (by simp [results, Tryd.results7, go_sem, k0, k1]) rfl ⟨by rw [Hr.out.1, Hr.out.2.1, Hr.out.2.2], HF.out.bel⟩
          | true =>
            have Hr := Lib.hid (HOk.out ho)
            obtain ⟨t0, t1⟩ := HT9.out.c
            have HF := Lib.hid (HR9.out.put (.int .i64 N) (.int .i64 (D : Int)))
            obtain ⟨k0, k1, _, _⟩ := blk2 HF.out.res
            obtain ⟨r0, r1, r2, r3⟩ := blk2 HR9.out.res
            go_wp2_with fail
            exact bodyPost_ret (v := .tuple #[aggQ N (D : Int), .int .i64 0]) (by simp [results, Tryd.results7, go_sem, k0, k1]) rfl ⟨by rw [Hr.out.1, Hr.out.2.1, Hr.out.2.2], HF.out.bel⟩
set_option maxRecDepth 100000 in
set_option maxHeartbeats 6400000 in
theorem AddS_any (a b c d : Int) (w : World) : Calls Tryd.prog 8 #[aggQ a b, aggQ c d] w (RetQC (adN a b c d) (adD a b c d) (adC a b c d) w) := by
  obtain ⟨w3, hw3, hq1, hq2, hr⟩ := blocks3 w (.int .i64 a) (.int .i64 b) (.int .i64 c) (.int .i64 d) 25 rfl
  have HA := Lib.hid hq1
  have HB := Lib.hid hq2
  have HR := Lib.hid hr
  clear hq1 hq2 hr
  go_enter Tryd.func8, Tryd.ntmps8
  go_upto_region 1 with (fail)
  rw [← hw3]
  clear hw3
  have HP := Lib.hid (fun x y wx => l19Ok_any x y wx)
  obtain ⟨a0, a1⟩ := HA.out.c
  go_wp2_with fail
  refine (HP.out _ _ _).mono ?_; rintro e w4 ⟨rfl, hb⟩
  have HA' := Lib.hid (HA.out.below hb)
  clear HA
  have HA := HA'
  clear HA'
  have HB' := Lib.hid (HB.out.below hb)
  clear HB
  have HB := HB'
  clear HB'
  have HR' := Lib.hid (HR.out.below hb)
  clear HR
  have HR := HR'
  clear HR'
  clear hb
  clear a0 a1
  cases h1 : okQ a b with
  | false =>
    have Hr := Lib.hid (adBad (a := a) (b := b) (c := c) (d := d) (by rw [h1]; rfl))
    have HF := Lib.hid (HR.out.put (.int .i64 0) (.int .i64 0))
    obtain ⟨k0, k1, _, _⟩ := blk2 HF.out.res
    obtain ⟨r0, r1, r2, r3⟩ := blk2 HR.out.res
    go_wp2_with fail
    exact bodyPost_ret (v := .tuple #[aggQ 0 0, .int .i64 1]) (by simp [results, Tryd.results8, go_sem, k0, k1]) rfl ⟨by rw [Hr.out.1, Hr.out.2.1, Hr.out.2.2], HF.out.bel⟩
  | true =>
    obtain ⟨b0, b1⟩ := HB.out.c
    go_wp2_with fail
    refine (HP.out _ _ _).mono ?_; rintro e w5 ⟨rfl, hb⟩
    have HA' := Lib.hid (HA.out.below hb)
    clear HA
    have HA := HA'
    clear HA'
    have HB' := Lib.hid (HB.out.below hb)
    clear HB
    have HB := HB'
    clear HB'
    have HR' := Lib.hid (HR.out.below hb)
    clear HR
    have HR := HR'
    clear HR'
    clear hb
    clear b0 b1
    cases h2 : okQ c d with
    | false =>
      have Hr := Lib.hid (adBad (a := a) (b := b) (c := c) (d := d) (by rw [h1, h2]; rfl))
      have HF := Lib.hid (HR.out.put (.int .i64 0) (.int .i64 0))
      obtain ⟨k0, k1, _, _⟩ := blk2 HF.out.res
      obtain ⟨r0, r1, r2, r3⟩ := blk2 HR.out.res
      go_wp2_with fail
      exact bodyPost_ret (v := .tuple #[aggQ 0 0, .int .i64 1]) (by simp [results, Tryd.results8, go_sem, k0, k1]) rfl ⟨by rw [Hr.out.1, Hr.out.2.1, Hr.out.2.2], HF.out.bel⟩
    | true =>
      have hab : (okQ a b && okQ c d) = true := by rw [h1, h2]; rfl
      obtain ⟨ra, rb, _⟩ := okQ_iff.1 h1
      obtain ⟨rc, rd, _⟩ := okQ_iff.1 h2
      obtain ⟨p, rfl⟩ : ∃ p : Nat, b = (p : Int) := ⟨b.toNat, by omega⟩
      obtain ⟨q, rfl⟩ : ∃ q : Nat, d = (q : Int) := ⟨d.toNat, by omega⟩
      have HX1 := Lib.hid (fun wx => l03Size_c a wx (by omega) (by omega))
      have HX2 := Lib.hid (fun wx => l03Size_c c wx (by omega) (by omega))
      obtain ⟨a0, a1⟩ := HA.out.c
      obtain ⟨b0, b1⟩ := HB.out.c
      by_cases t1 : 1000000 < a.natAbs
      · have Hr := Lib.hid (adBg hab (by unfold adBig; rw [decide_eq_true t1]; simp))
        have t1' : (1000000 : Int) < (a.natAbs : Int) := by omega
        go_wp2_with fail
        refine (HX1.out _).mono ?_; rintro e w1 ⟨rfl, rfl⟩
        have HF := Lib.hid (HR.out.put (.int .i64 0) (.int .i64 0))
        obtain ⟨k0, k1, _, _⟩ := blk2 HF.out.res
        obtain ⟨r0, r1, r2, r3⟩ := blk2 HR.out.res
        go_wp2_with fail
        exact bodyPost_ret (v := .tuple #[aggQ 0 0, .int .i64 2]) (by simp [results, Tryd.results8, go_sem, k0, k1]) rfl ⟨by rw [Hr.out.1, Hr.out.2.1, Hr.out.2.2], HF.out.bel⟩
      by_cases t2 : 1000000 < c.natAbs
      · have Hr := Lib.hid (adBg hab (by unfold adBig; rw [decide_eq_true t2]; simp))
        have t1' : (a.natAbs : Int) ≤ (1000000 : Int) := by omega
        have t2' : (1000000 : Int) < (c.natAbs : Int) := by omega
        go_wp2_with fail
        refine (HX1.out _).mono ?_; rintro e w1 ⟨rfl, rfl⟩
        go_wp2_with fail
        refine (HX2.out _).mono ?_; rintro e w1 ⟨rfl, rfl⟩
        have HF := Lib.hid (HR.out.put (.int .i64 0) (.int .i64 0))
        obtain ⟨k0, k1, _, _⟩ := blk2 HF.out.res
        obtain ⟨r0, r1, r2, r3⟩ := blk2 HR.out.res
        go_wp2_with fail
        exact bodyPost_ret (v := .tuple #[aggQ 0 0, .int .i64 2]) (by simp [results, Tryd.results8, go_sem, k0, k1]) rfl ⟨by rw [Hr.out.1, Hr.out.2.1, Hr.out.2.2], HF.out.bel⟩
      by_cases t3 : (1000000 : Int) < (p : Int)
      · have Hr := Lib.hid (adBg hab (by unfold adBig; rw [decide_eq_true t3]; simp))
        have t1' : (a.natAbs : Int) ≤ (1000000 : Int) := by omega
        have t2' : (c.natAbs : Int) ≤ (1000000 : Int) := by omega
        go_wp2_with fail
        refine (HX1.out _).mono ?_; rintro e w1 ⟨rfl, rfl⟩
        go_wp2_with fail
        refine (HX2.out _).mono ?_; rintro e w1 ⟨rfl, rfl⟩
        have HF := Lib.hid (HR.out.put (.int .i64 0) (.int .i64 0))
        obtain ⟨k0, k1, _, _⟩ := blk2 HF.out.res
        obtain ⟨r0, r1, r2, r3⟩ := blk2 HR.out.res
        go_wp2_with fail
        exact bodyPost_ret (v := .tuple #[aggQ 0 0, .int .i64 2]) (by simp [results, Tryd.results8, go_sem, k0, k1]) rfl ⟨by rw [Hr.out.1, Hr.out.2.1, Hr.out.2.2], HF.out.bel⟩
      by_cases t4 : (1000000 : Int) < (q : Int)
      · have Hr := Lib.hid (adBg hab (by unfold adBig; rw [decide_eq_true t4]; simp))
        have t1' : (a.natAbs : Int) ≤ (1000000 : Int) := by omega
        have t2' : (c.natAbs : Int) ≤ (1000000 : Int) := by omega
        go_wp2_with fail
        refine (HX1.out _).mono ?_; rintro e w1 ⟨rfl, rfl⟩
        go_wp2_with fail
        refine (HX2.out _).mono ?_; rintro e w1 ⟨rfl, rfl⟩
        have HF := Lib.hid (HR.out.put (.int .i64 0) (.int .i64 0))
        obtain ⟨k0, k1, _, _⟩ := blk2 HF.out.res
        obtain ⟨r0, r1, r2, r3⟩ := blk2 HR.out.res
        go_wp2_with fail
        exact bodyPost_ret (v := .tuple #[aggQ 0 0, .int .i64 2]) (by simp [results, Tryd.results8, go_sem, k0, k1]) rfl ⟨by rw [Hr.out.1, Hr.out.2.1, Hr.out.2.2], HF.out.bel⟩
      have hbig : adBig a (p : Int) c (q : Int) = false := by unfold adBig; rw [decide_eq_false t1, decide_eq_false t2, decide_eq_false t3, decide_eq_false t4]; rfl
      have t1' : (a.natAbs : Int) ≤ (1000000 : Int) := by omega
      have t2' : (c.natAbs : Int) ≤ (1000000 : Int) := by omega
      have HS := Lib.hid (sumBounds h1 h2 hbig)
      obtain ⟨s1, s2, s3, s4⟩ := HS.out
      have HFu := Lib.hid (fun h => adFull hab hbig h)
      have HOk := Lib.hid (fun h => adOk hab hbig h)
      have HSu := Lib.hid (fun wx => l19Make_any (a * (q : Int) + c * (p : Int)) (p * q) wx (by omega) (by omega) s4)
      have w1 : IntKind.i64.wrap (a * (q : Int)) = a * (q : Int) := IntWalk.i64_in _ (by omega)
      have w2 : IntKind.i64.wrap (c * (p : Int)) = c * (p : Int) := IntWalk.i64_in _ (by omega)
      have w3 : IntKind.i64.wrap (a * (q : Int) + c * (p : Int)) = a * (q : Int) + c * (p : Int) := IntWalk.i64_in _ (by omega)
      have w4 : IntKind.i64.wrap ((p : Int) * (q : Int)) = ((p * q : Nat) : Int) := by rw [← Int.natCast_mul]; exact IntWalk.i64_in _ (by omega)
      unfold RetQ at HSu
      generalize lowN (a * (q : Int) + c * (p : Int)) (p * q) = N at *
      generalize lowD (a * (q : Int) + c * (p : Int)) (p * q) = D at *
      clear s1 s2 s3 s4
      go_wp2_with fail
      refine (HX1.out _).mono ?_; rintro e w1 ⟨rfl, rfl⟩
      go_wp2_with fail
      refine (HX2.out _).mono ?_; rintro e w1 ⟨rfl, rfl⟩
      go_wp2_with fail
      refine (HSu.out _).mono ?_; rintro e w7 ⟨rfl, hb⟩
      have HR' := Lib.hid (HR.out.below hb)
      have Hlt := Lib.hid (blk_ltF HR'.out.res)
      clear HR
      have HR := HR'
      clear HR' hb
      go_upto_region 6 with (fail)
      have HT := Lib.hid (Q2.new w7 (.int .i64 N) (.int .i64 (D : Int)) 25)
      have HR8 := Lib.hid (HR.out.alloc (.cells #[.int .i64 N, .int .i64 (D : Int)] 25))
      clear HA HB HR
      generalize w7.alloc (.cells #[.int .i64 N, .int .i64 (D : Int)] 25) = w8 at *
      have ht3 : w.heap.size < w7.heap.size := by have := HR8.out.lr; have := HT.out.lt; have := Hlt.out; omega
      generalize hg : w7.heap.size = t at *
      have Hg := Lib.hid hg
      clear hg
      obtain ⟨t0, t1⟩ := HT.out.c
      go_wp2_with fail
      refine (HP.out _ _ _).mono ?_; rintro e w9 ⟨rfl, hb⟩
      have HR9 := Lib.hid (HR8.out.below hb)
      have HT9 := Lib.hid (HT.out.below hb)
      clear hb t0 t1 HR8 HT
      cases ho : okQ N (D : Int) with
      | false =>
        have Hr := Lib.hid (HFu.out ho)
        have HF := Lib.hid (HR9.out.put (.int .i64 0) (.int .i64 0))
        obtain ⟨k0, k1, _, _⟩ := blk2 HF.out.res
        obtain ⟨r0, r1, r2, r3⟩ := blk2 HR9.out.res
        go_wp2_with fail
        exact bodyPost_ret (v := .tuple #[aggQ 0 0, .int .i64 5]) (by simp [results, Tryd.results8, go_sem, k0, k1]) rfl ⟨by rw [Hr.out.1, Hr.out.2.1, Hr.out.2.2], HF.out.bel⟩
      | true =>
        have Hr := Lib.hid (HOk.out ho)
        obtain ⟨t0, t1⟩ := HT9.out.c
        have HF := Lib.hid (HR9.out.put (.int .i64 N) (.int .i64 (D : Int)))
        obtain ⟨k0, k1, _, _⟩ := blk2 HF.out.res
        obtain ⟨r0, r1, r2, r3⟩ := blk2 HR9.out.res
        go_wp2_with fail
        exact bodyPost_ret (v := .tuple #[aggQ N (D : Int), .int .i64 0]) (by simp [results, Tryd.results8, go_sem, k0, k1]) rfl ⟨by rw [Hr.out.1, Hr.out.2.1, Hr.out.2.2], HF.out.bel⟩
end Go.Proofs.YtmeenihnhfhbkaaDoor
