/- Merged texts: Lib, By1, By2, Lib5, Args, ArgRows, By3, Base, By4, By5, By6. -/
import Derived.WalkKit
import Derived.WalkSpells
import Derived.WalkLawsBesides
import Derived.Deep.QuietTactic
import Derived.BigQuiet
import Derived.StillTailTactics
import Derived.Laws.IdiomStrings
import Derived.Deep.RegionHeld3
import Derived.Deep.AppendLies
import Derived.Deep.DrawnRows
import Derived.Lib.Hide
import Derived.IntWalk
import Derived.KernelRfl
import Derived.Lib.SmallJoins
import Derived.ProofKit
import Derived.OpenShut
import Derived.Deep.Slices
import Derived.Laws.IdiomCopy
import Derived.Lib.ReflectliteSwap
import Derived.Test.YtmlnaedeghpbbaaRows
import Derived.Shelf.GgSortFunc.Slice
/- Laws of my own for walks: append of new elements to a row of the call's own; conversions of owned rows of bytes to strings. No program is named here but for the numbers of types. -/
namespace Go.Proofs.Ytmlnaedeghpbbaa
open Go.RowKit

theorem ret_int {k : IntKind} {a b : Int} (h : a = b) : Ending.returned (.int k a) = .returned (.int k b) := by rw [h]

section
variable {P : Program}

/-- the cells of a block that has just been made -/
theorem new_cells (w : World) (cs : Array Value) (e : TypeId) : ∀ j u, cs.toList[j]? = some u → (w.alloc (.cells cs e)).cell? ((⟨w.heap.size, 0, none⟩ : Addr).add j) = some u := by
  intro j u hu
  have hadd : (⟨w.heap.size, 0, none⟩ : Addr).add j = ⟨w.heap.size, j, none⟩ := by unfold Addr.add; split <;> simp_all
  rw [hadd, cell_of_row (w.alloc (.cells cs e)) w.heap.size j cs e (0, 0) (heap_alloc_new w _)]
  simpa using hu

theorem wpList_apd {w : World} {ops : Array Oper} {rest : List Oper} {o : Oper} {a : Act} {Q : Exit → Act → World → Prop} (t e : TypeId) (z : Value) (size bytes : Nat)
    (ht : P.underlying t = some (.slice e)) (hinfo : (P.info? e).map (fun i => (i.zero, i.size, i.bytes)) = some (some z, size, bytes)) (hzs : z.cells.size = size) (hsz : 0 < size)
    (s x : Operand) (hgd : o.guard = none) (ho : o.op = .call { callee := .builtin .append, args := #[s, x], argTypes := #[t, t] })
    (base : Nat) (v : Value) (n : Nat) (xs : List Value) (hs : a.eval s = v) (hown : w.ownsRow base e size v n xs)
    (cs : Array Value) (m c : Nat) (hx : a.eval x = .slice (some ⟨w.heap.size, 0, none⟩) m c) (hl : cs.toList.length = m * size) (h1 : ∀ u ∈ cs.toList, u.oneCell' = true)
    (h63 : n + m ≤ maxLen) (hbytes : (n + m) * bytes ≤ 140737488355328) (hbase : base ≤ w.heap.size)
    (h : ∀ v' w', w'.ownsRow base e size v' (n + m) (xs ++ cs.toList) → w.grownBy w' v.ownBlock → wpList P ops Q rest (a.put o.dst v') w') :
    wpList P ops Q (o :: rest) a (w.alloc (.cells cs e)) := by
  obtain ⟨i, hi, hz, h2, h3⟩ := info_parts hinfo
  refine wpList_append_own _ hgd s x t ho base e i z size bytes ht hi hz h2 h3 hzs hsz v n xs hs (hown.alloc _) ⟨w.heap.size, 0, none⟩ m c cs.toList hx hl (new_cells w cs e) h1 h63 hbytes (by simp; omega) ?_
  intro v' w' ho' hg' _
  refine h v' w' ho' ⟨hg'.os, hg'.tape, hg'.output, Nat.le_trans (by simp) hg'.size, fun k hk hne => ?_⟩
  rw [hg'.block k (by simp; omega) hne]
  exact Below.heap_alloc w _ k hk

theorem wp_apd {w : World} {o : Oper} {a : Act} {K : Act → World → Prop} {Q : Exit → Act → World → Prop} (t e : TypeId) (z : Value) (size bytes : Nat)
    (ht : P.underlying t = some (.slice e)) (hinfo : (P.info? e).map (fun i => (i.zero, i.size, i.bytes)) = some (some z, size, bytes)) (hzs : z.cells.size = size) (hsz : 0 < size)
    (s x : Operand) (ho : o.op = .call { callee := .builtin .append, args := #[s, x], argTypes := #[t, t] })
    (base : Nat) (v : Value) (n : Nat) (xs : List Value) (hs : a.eval s = v) (hown : w.ownsRow base e size v n xs)
    (cs : Array Value) (m c : Nat) (hx : a.eval x = .slice (some ⟨w.heap.size, 0, none⟩) m c) (hl : cs.toList.length = m * size) (h1 : ∀ u ∈ cs.toList, u.oneCell' = true)
    (h63 : n + m ≤ maxLen) (hbytes : (n + m) * bytes ≤ 140737488355328) (hbase : base ≤ w.heap.size)
    (h : ∀ v' w', w'.ownsRow base e size v' (n + m) (xs ++ cs.toList) → w.grownBy w' v.ownBlock → K (a.put o.dst v') w') :
    o.wp P a (w.alloc (.cells cs e)) K Q := by
  obtain ⟨i, hi, hz, h2, h3⟩ := info_parts hinfo
  refine wp_append_own _ s x t ho base e i z size bytes ht hi hz h2 h3 hzs hsz v n xs hs (hown.alloc _) ⟨w.heap.size, 0, none⟩ m c cs.toList hx hl (new_cells w cs e) h1 h63 hbytes (by simp; omega) ?_
  intro v' w' ho' hg' _
  refine h v' w' ho' ⟨hg'.os, hg'.tape, hg'.output, Nat.le_trans (by simp) hg'.size, fun k hk hne => ?_⟩
  rw [hg'.block k (by simp; omega) hne]
  exact Below.heap_alloc w _ k hk

/-- the same at a step of a region that draws its order -/
theorem step_apd {w : World} {ops : Array Oper} {o : Oper} {a : Act} {K : Act → World → Prop} {Q : Exit → Act → World → Prop} {E : Prop} (t e : TypeId) (z : Value) (size bytes : Nat)
    (ht : P.underlying t = some (.slice e)) (hinfo : (P.info? e).map (fun i => (i.zero, i.size, i.bytes)) = some (some z, size, bytes)) (hzs : z.cells.size = size) (hsz : 0 < size)
    (s x : Operand) (hgd : o.guard = none) (ho : o.op = .call { callee := .builtin .append, args := #[s, x], argTypes := #[t, t] })
    (base : Nat) (v : Value) (n : Nat) (xs : List Value) (hs : a.eval s = v) (hown : w.ownsRow base e size v n xs)
    (cs : Array Value) (m c : Nat) (hx : a.eval x = .slice (some ⟨w.heap.size, 0, none⟩) m c) (hl : cs.toList.length = m * size) (h1 : ∀ u ∈ cs.toList, u.oneCell' = true)
    (h63 : n + m ≤ maxLen) (hbytes : (n + m) * bytes ≤ 140737488355328) (hbase : base ≤ w.heap.size)
    (h : ∀ v' w', w'.ownsRow base e size v' (n + m) (xs ++ cs.toList) → w.grownBy w' v.ownBlock → K (a.put o.dst v') w') :
    if Region.wanted o (yielded ops a.tmps) = true then Oper.wp P o a (w.alloc (.cells cs e)).drew K Q else E := by
  have hw : Region.wanted o (yielded ops a.tmps) = true := by simp [Region.wanted, hgd]
  rw [if_pos hw]
  refine wp_apd (w := w.drew) t e z size bytes ht hinfo hzs hsz s x ho base v n xs hs hown.drew cs m c hx hl h1 h63 hbytes hbase ?_
  intro v' w' h2 h3
  exact h v' w' h2 ⟨h3.os, h3.tape, h3.output, h3.size, h3.block⟩

/-- what an append to a row of the call's own does to what lay below -/
theorem below_apd {w w' : World} {B base : Nat} {W : World} {e : TypeId} {size n : Nat} {v : Value} {xs : List Value} (h : Below B W w) (hown : w.ownsRow base e size v n xs) (hg : w.grownBy w' v.ownBlock)
    (hB : B ≤ base) (hs : B ≤ w.heap.size) : Below B W w' :=
  h.grown hg hs (fun k hk => Nat.le_trans hB (hown.lt k hk).1)

theorem below_drewN {B : Nat} {a w : World} (h : Below B a w) (n : Nat) : Below B a (w.drewN n) := ⟨h.os, h.tape, h.output, h.size, h.block⟩
theorem below_undrew {B : Nat} {a w : World} (h : Below B a.drew w) : Below B a w := ⟨h.os, h.tape, h.output, h.size, h.block⟩
theorem below_undrewN {B n : Nat} {a w : World} (h : Below B (a.drewN n) w) : Below B a w := ⟨h.os, h.tape, h.output, h.size, h.block⟩
theorem grown_undrew {r : Option Nat} {a w : World} (h : a.drew.grownBy w r) : a.grownBy w r := ⟨h.os, h.tape, h.output, h.size, h.block⟩
theorem grown_of_below {a w : World} (h : Below a.heap.size a w) (r : Option Nat) : a.grownBy w r := ⟨h.os, h.tape, h.output, h.size, fun i hi _ => h.block i hi⟩
theorem grown_trans {a b c : World} {r : Option Nat} (h : a.grownBy b r) (k : b.grownBy c r) : a.grownBy c r :=
  ⟨k.os.trans h.os, k.tape.trans h.tape, k.output.trans h.output, Nat.le_trans h.size k.size, fun i hi hne => (k.block i (Nat.lt_of_lt_of_le hi h.size) hne).trans (h.block i hi hne)⟩
theorem own_below {w w' : World} {base : Nat} {e : TypeId} {size : Nat} {v : Value} {n : Nat} {xs : List Value} (h : w.ownsRow base e size v n xs) (hb : Below w.heap.size w w') : w'.ownsRow base e size v n xs :=
  h.kept (grown_of_below hb none) (by cases hv : v.ownBlock <;> simp)
theorem _root_.Go.World.ownsRow.drewN {w : World} {base : Nat} {e : TypeId} {size : Nat} {v : Value} {n : Nat} {xs : List Value} (h : w.ownsRow base e size v n xs) (k : Nat) : (w.drewN k).ownsRow base e size v n xs := h

theorem blk2 {w : World} {g : Nat} {a b : Value} {t : TypeId} (h : w.heap[g]? = some (.cells #[a, b] t (0, 0))) :
    w.cell? ⟨g, 0, none⟩ = some a ∧ w.cell? ⟨g, 1, none⟩ = some b ∧ w.frozen? ⟨g, 0, none⟩ = false ∧ w.frozen? ⟨g, 1, none⟩ = false :=
  ⟨by rw [cell_of_row w g 0 _ _ _ h]; rfl, by rw [cell_of_row w g 1 _ _ _ h]; rfl, frozen_of_row w g 0 _ _ h, frozen_of_row w g 1 _ _ h⟩
theorem grown_setCell {a w : World} {r : Option Nat} (h : a.grownBy w r) {p : Addr} (hp : some p.block = r ∨ a.heap.size ≤ p.block) (u : Value) : a.grownBy (w.setCell p u) r :=
  ⟨h.os, h.tape, h.output, by simpa [World.setCell] using h.size, fun i hi hne => (Below.heap_setCell w p u i (by
    rintro rfl
    rcases hp with hp | hp
    · exact hne hp
    · omega)).trans (h.block i hi hne)⟩
theorem grown_alloc {a w : World} {r : Option Nat} (h : a.grownBy w r) (o : Obj) : a.grownBy (w.alloc o) r :=
  ⟨h.os, h.tape, h.output, Nat.le_trans h.size (by simp), fun i hi hne => (Below.heap_alloc w o i (Nat.lt_of_lt_of_le hi h.size)).trans (h.block i hi hne)⟩
theorem grown_below {a b c : World} {r : Option Nat} (h : a.grownBy b r) (k : Below b.heap.size b c) : a.grownBy c r := grown_trans h (grown_of_below k r)
/-- a block that was made on the way: seen from before, it is new -/
theorem grown_from_alloc {a w : World} {o : Obj} {r : Option Nat} (h : (a.alloc o).grownBy w r) : a.grownBy w r :=
  ⟨h.os, h.tape, h.output, Nat.le_trans (by simp) h.size, fun i hi hne => (h.block i (by simp; omega) hne).trans (Below.heap_alloc a o i hi)⟩
theorem below_of_grown {a w : World} {r : Option Nat} {B : Nat} (h : a.grownBy w r) (hB : B ≤ a.heap.size) (hr : ∀ x, r = some x → B ≤ x) : Below B a w :=
  ⟨h.os, h.tape, h.output, h.size, fun i hi => h.block i (by omega) (fun e => by have := hr i e.symm; omega)⟩

/-- THE READING OF A SLICE: the value is a slice of n elements, whose cells (sz an element) lie below block B and hold cs. -/
def Rd (w : World) (B : Nat) (v : Value) (n sz : Nat) (cs : List Value) : Prop :=
  cs.length = n * sz ∧ ∃ A c, v = .slice A n c ∧ (0 < n * sz → ∃ b off, A = some ⟨b, off, none⟩ ∧ b < B ∧ ∀ i u, cs[i]? = some u → w.cell? ⟨b, off + i, none⟩ = some u)

theorem Rd.of_own {w : World} {base : Nat} {e : TypeId} {sz n : Nat} {v : Value} {cs : List Value} (h : w.ownsRow base e sz v n cs) : Rd w w.heap.size v n sz cs := by
  refine ⟨h.1, ?_⟩
  rcases h.2 with ⟨rfl, rfl⟩ | ⟨g, cap, cur, rfl, _, hg, _⟩
  · exact ⟨none, 0, rfl, fun h => by simp at h⟩
  · refine ⟨_, _, rfl, fun _ => ⟨g, 0, rfl, (Array.getElem?_eq_some_iff.1 hg).1, fun i u hu => ?_⟩⟩
    have := h.cells (g := g) rfl i u hu
    rw [show (⟨g, 0, none⟩ : Addr).add i = ⟨g, 0 + i, none⟩ by unfold Addr.add; split <;> simp_all] at this
    exact this
theorem Rd.keep {w w' : World} {B : Nat} {v : Value} {n sz : Nat} {cs : List Value} (h : Rd w B v n sz cs) (hk : ∀ p : Addr, p.block < B → w'.cell? p = w.cell? p) : Rd w' B v n sz cs := by
  obtain ⟨h1, A, c, hv, h2⟩ := h
  refine ⟨h1, A, c, hv, fun hn => ?_⟩
  obtain ⟨b, off, hA, hb, hc⟩ := h2 hn
  exact ⟨b, off, hA, hb, fun i u hu => (hk _ hb).trans (hc i u hu)⟩
theorem Rd.below {w w' : World} {B : Nat} {v : Value} {n sz : Nat} {cs : List Value} (h : Rd w B v n sz cs) (hb : Below B w w') : Rd w' B v n sz cs := h.keep fun _ hp => hb.cell hp
theorem Rd.more {w : World} {B B' : Nat} {v : Value} {n sz : Nat} {cs : List Value} (h : Rd w B v n sz cs) (hB : B ≤ B') : Rd w B' v n sz cs := by
  obtain ⟨h1, A, c, hv, h2⟩ := h
  refine ⟨h1, A, c, hv, fun hn => ?_⟩
  obtain ⟨b, off, hA, hb, hc⟩ := h2 hn
  exact ⟨b, off, hA, Nat.lt_of_lt_of_le hb hB, hc⟩
theorem Rd.drewN {w : World} {B : Nat} {v : Value} {n sz : Nat} {cs : List Value} (h : Rd w B v n sz cs) (k : Nat) : Rd (w.drewN k) B v n sz cs := h

theorem ba_app (a b : Array UInt8) : ((⟨a⟩ : ByteArray) ++ ⟨b⟩) = ⟨a ++ b⟩ := ByteArray.ext (by simp)
theorem ba_inj {a b : ByteArray} (h : a.toList = b.toList) : a = b := by
  rw [ByteArray.toList_eq, ByteArray.toList_eq] at h
  exact ByteArray.ext (by rw [← Array.toArray_toList (xs := a.data), h, Array.toArray_toList])

/-- a byte as a cell -/
def byV (c : UInt8) : Value := .int .u8 (c.toNat : Int)

theorem run_conv_own {w : World} (src dst e : TypeId) (hsrc : P.underlying src = some (.slice e)) (he : P.underlying e = some (.int .u8)) (hd : P.underlying dst = some .string)
    (base : Nat) (v : Value) (n : Nat) (l : List UInt8) (hown : w.ownsRow base e 1 v n (l.map byV)) : (convert src dst v).run P w = .ok (.string ⟨l.toArray⟩) w := by
  have hlen : l.length = n := by simpa using hown.1
  rcases hown.2 with ⟨rfl, h0⟩ | ⟨g, cap, cur, rfl, _, hg, _⟩
  · obtain rfl : l = [] := List.eq_nil_of_length_eq_zero (by omega)
    rw [run_convert_bytes_string w src dst e _ _ _ hsrc he hd]
    simp [Conv.bytesToString]; rfl
  · subst hlen
    refine run_convert_bytes_back w src dst e _ cap l hsrc he hd (fun j hj => ?_)
    have := hown.cells (g := g) rfl j (byV l[j]) (by simp [hj])
    exact this
theorem run_conv_one {w : World} (src dst e : TypeId) (hsrc : P.underlying src = some (.slice e)) (he : P.underlying e = some (.int .u8)) (hd : P.underlying dst = some .string) (c : UInt8) :
    (convert src dst (.slice (some ⟨w.heap.size, 0, none⟩) 1 1)).run P (w.alloc (.cells #[.int .u8 (c.toNat : Int)] e)) = .ok (.string ⟨#[c]⟩) (w.alloc (.cells #[.int .u8 (c.toNat : Int)] e)) :=
  run_convert_bytes_back _ src dst e _ 1 [c] hsrc he hd (fun j hj => by
    have : j = 0 := by simpa using hj
    subst this
    exact new_cells w #[.int .u8 (c.toNat : Int)] e 0 _ rfl)
end
end Go.Proofs.Ytmlnaedeghpbbaa
/- A stable sort by years, plain law: the order by year and place, swaps, insertion, rotation, symmetric merging. -/
namespace Go.Proofs.Ytmlnaedeghpbbaa

/-- first the year, then the place -/
def lexY (yr : Nat → Int) (u v : Nat) : Prop := yr u < yr v ∨ (yr u = yr v ∧ u < v)
theorem lexY.trans {yr : Nat → Int} {u v z : Nat} (h : lexY yr u v) (k : lexY yr v z) : lexY yr u z := by
  unfold lexY at *; omega
theorem lexY.ne {yr : Nat → Int} {u v : Nat} (h : lexY yr u v) : u ≠ v := by
  intro e
  subst e
  unfold lexY at h; omega
theorem lexY.asymm {yr : Nat → Int} {u v : Nat} (h : lexY yr u v) : ¬ lexY yr v u := by
  unfold lexY at *; omega
/-- what lies left has the smaller places: the year decides -/
theorem lexY_le {yr : Nat → Int} {u v : Nat} (h : u < v) (k : ¬ yr v < yr u) : lexY yr u v := by
  unfold lexY; omega
theorem lexY_gt {yr : Nat → Int} {u v : Nat} (k : yr v < yr u) : lexY yr v u := .inl k
def swpY (x : Nat → Nat) (i j : Nat) : Nat → Nat := fun k => if k = i then x j else if k = j then x i else x k
def SrtY (yr : Nat → Int) (x : Nat → Nat) (a b : Nat) : Prop := ∀ i j, a ≤ i → i < j → j < b → lexY yr (x i) (x j)
/-- the same members in a range, the same outside -/
structure PrmY (x y : Nat → Nat) (a b : Nat) : Prop where
  out : ∀ i, i < a ∨ b ≤ i → y i = x i
  fw : ∀ i, a ≤ i → i < b → ∃ j, a ≤ j ∧ j < b ∧ y i = x j
  bw : ∀ j, a ≤ j → j < b → ∃ i, a ≤ i ∧ i < b ∧ y i = x j
theorem PrmY.refl (x : Nat → Nat) (a b : Nat) : PrmY x x a b := ⟨fun _ _ => rfl, fun i h k => ⟨i, h, k, rfl⟩, fun i h k => ⟨i, h, k, rfl⟩⟩
theorem PrmY.trans {x y z : Nat → Nat} {a b : Nat} (h : PrmY x y a b) (k : PrmY y z a b) : PrmY x z a b := by
  refine ⟨fun i hi => (k.out i hi).trans (h.out i hi), fun i h1 h2 => ?_, fun j h1 h2 => ?_⟩
  · obtain ⟨j, h3, h4, h5⟩ := k.fw i h1 h2
    obtain ⟨l, h6, h7, h8⟩ := h.fw j h3 h4
    exact ⟨l, h6, h7, h5.trans h8⟩
  · obtain ⟨i, h3, h4, h5⟩ := h.bw j h1 h2
    obtain ⟨l, h6, h7, h8⟩ := k.bw i h3 h4
    exact ⟨l, h6, h7, h8.trans h5⟩
theorem PrmY.wide {x y : Nat → Nat} {a b a' b' : Nat} (h : PrmY x y a b) (ha : a' ≤ a) (hb : b ≤ b') : PrmY x y a' b' := by
  refine ⟨fun i hi => h.out i (by omega), fun i h1 h2 => ?_, fun j h1 h2 => ?_⟩
  · by_cases e : a ≤ i ∧ i < b
    · obtain ⟨j, h3, h4, h5⟩ := h.fw i e.1 e.2
      exact ⟨j, by omega, by omega, h5⟩
    · exact ⟨i, h1, h2, h.out i (by omega)⟩
  · by_cases e : a ≤ j ∧ j < b
    · obtain ⟨i, h3, h4, h5⟩ := h.bw j e.1 e.2
      exact ⟨i, by omega, by omega, h5⟩
    · exact ⟨j, h1, h2, h.out j (by omega)⟩
theorem PrmY.swp (x : Nat → Nat) {a b i j : Nat} (h1 : a ≤ i) (h2 : i < b) (h3 : a ≤ j) (h4 : j < b) : PrmY x (swpY x i j) a b := by
  refine ⟨fun k hk => ?_, fun k k1 k2 => ?_, fun k k1 k2 => ?_⟩
  · unfold swpY
    rw [if_neg (by omega), if_neg (by omega)]
  · unfold swpY
    by_cases e : k = i
    · exact ⟨j, h3, h4, by rw [if_pos e]⟩
    · by_cases e2 : k = j
      · exact ⟨i, h1, h2, by rw [if_neg e, if_pos e2]⟩
      · exact ⟨k, k1, k2, by rw [if_neg e, if_neg e2]⟩
  · by_cases e : k = i
    · refine ⟨j, h3, h4, ?_⟩
      unfold swpY
      by_cases e3 : j = i
      · rw [if_pos e3, e, e3]
      · rw [if_neg e3, if_pos rfl, e]
    · by_cases e2 : k = j
      · exact ⟨i, h1, h2, by unfold swpY; rw [if_pos rfl, e2]⟩
      · exact ⟨k, k1, k2, by unfold swpY; rw [if_neg e, if_neg e2]⟩
theorem SrtY.same {yr : Nat → Int} {x y : Nat → Nat} {a b : Nat} (h : SrtY yr x a b) (e : ∀ i, a ≤ i → i < b → y i = x i) : SrtY yr y a b := fun i j h1 h2 h3 => by
  rw [e i h1 (by omega), e j (by omega) h3]; exact h i j h1 h2 h3
/-! insertion -/
/-- the element i is on its way: it lies at j -/
structure InsY (yr : Nat → Int) (x cur : Nat → Nat) (a i j : Nat) : Prop where
  prm : PrmY x cur a (i + 1)
  at' : cur j = x i
  srt : ∀ p q, a ≤ p → p < q → q ≤ i → q ≠ j → lexY yr (cur p) (cur q)
  rest : ∀ p, a ≤ p → p ≤ i → p ≠ j → ∃ l, a ≤ l ∧ l < i ∧ cur p = x l
theorem InsY.start {yr : Nat → Int} {x y : Nat → Nat} {a i : Nat} (hp : PrmY x y a i) (hs : SrtY yr y a i) (hi : a ≤ i) : InsY yr x y a i i := by
  refine ⟨hp.wide (Nat.le_refl _) (Nat.le_succ _), hp.out i (.inr (Nat.le_refl _)), fun p q h1 h2 h3 h4 => hs p q h1 h2 (by omega), fun p h1 h2 h3 => hp.fw p h1 (by omega)⟩
theorem InsY.step {yr : Nat → Int} {x cur : Nat → Nat} {a i j : Nat} (h : InsY yr x cur a i j) (hj : a < j) (hi : j ≤ i) (hl : yr (cur j) < yr (cur (j - 1))) : InsY yr x (swpY cur j (j - 1)) a i (j - 1) := by
  have e1 : swpY cur j (j - 1) (j - 1) = cur j := by unfold swpY; rw [if_neg (by omega), if_pos rfl]
  have e2 : swpY cur j (j - 1) j = cur (j - 1) := by unfold swpY; rw [if_pos rfl]
  have e3 : ∀ k, k ≠ j → k ≠ j - 1 → swpY cur j (j - 1) k = cur k := fun k h1 h2 => by unfold swpY; rw [if_neg h1, if_neg h2]
  refine ⟨h.prm.trans (PrmY.swp cur (by omega) (by omega) (by omega) (by omega)), e1.trans h.at', fun p q h1 h2 h3 h4 => ?_, fun p h1 h2 h3 => ?_⟩
  · by_cases q1 : q = j
    · subst q1
      rw [e2]
      by_cases p1 : p = q - 1
      · rw [p1, e1]; exact .inl hl
      · rw [e3 p (by omega) p1]; exact h.srt p (q - 1) h1 (by omega) (by omega) (by omega)
    · rw [e3 q q1 h4]
      by_cases p1 : p = j
      · rw [p1, e2]; exact h.srt (j - 1) q (by omega) (by omega) h3 q1
      · by_cases p2 : p = j - 1
        · rw [p2, e1]; exact h.srt j q (by omega) (by omega) h3 q1
        · rw [e3 p p1 p2]; exact h.srt p q h1 h2 h3 q1
  · by_cases p1 : p = j
    · rw [p1, e2]; exact h.rest (j - 1) (by omega) (by omega) (by omega)
    · rw [e3 p p1 h3]; exact h.rest p h1 h2 p1
theorem InsY.done {yr : Nat → Int} {x cur : Nat → Nat} {a i j : Nat} (h : InsY yr x cur a i j) (hi : j ≤ i) (hx : ∀ k, a ≤ k → k < i → x k < x i) (hl : j = a ∨ ¬ yr (cur j) < yr (cur (j - 1))) : SrtY yr cur a (i + 1) := fun p q h1 h2 h3 => by
  by_cases e : q = j
  · subst e
    have hk : lexY yr (cur (q - 1)) (cur q) := by
      obtain ⟨l, l1, l2, l3⟩ := h.rest (q - 1) (by omega) (by omega) (by omega)
      refine lexY_le ?_ (hl.resolve_left (by omega))
      rw [l3, h.at']; exact hx l l1 l2
    by_cases p1 : p = q - 1
    · rw [p1]; exact hk
    · exact (h.srt p (q - 1) h1 (by omega) (by omega) (by omega)).trans hk
  · exact h.srt p q h1 h2 (by omega) e
/-! blocks change places -/
def swRY (x : Nat → Nat) (a b n : Nat) : Nat → Nat := fun k => if a ≤ k ∧ k < a + n then x (k - a + b) else if b ≤ k ∧ k < b + n then x (k - b + a) else x k
theorem swRY_zero (x : Nat → Nat) (a b : Nat) : swRY x a b 0 = x := by
  funext k
  unfold swRY
  repeat' split
  all_goals first | rfl | (congr 1; omega) | (exfalso; omega)
theorem swRY_step (x : Nat → Nat) {a b n : Nat} (h : a + n < b) : swpY (swRY x a b n) (a + n) (b + n) = swRY x a b (n + 1) := by
  funext k
  unfold swpY swRY
  repeat' split
  all_goals first | rfl | (congr 1; omega) | (exfalso; omega)
/-- [a, m) and [m, b) change places -/
def rotY (x : Nat → Nat) (a m b : Nat) : Nat → Nat := fun k => if a ≤ k ∧ k < a + (b - m) then x (k + (m - a)) else if a + (b - m) ≤ k ∧ k < b then x (k - (b - m)) else x k
theorem rotY_end (x : Nat → Nat) {m i : Nat} (h : i ≤ m) : swRY x (m - i) m i = rotY x (m - i) m (m + i) := by
  funext k
  unfold swRY rotY
  repeat' split
  all_goals first | rfl | (congr 1; omega) | (exfalso; omega)
theorem rotY_gt (x : Nat → Nat) {m i j : Nat} (h : i ≤ m) (hj : j < i) : rotY (swRY x (m - i) m j) (m - (i - j)) m (m + j) = rotY x (m - i) m (m + j) := by
  funext k
  unfold rotY swRY
  repeat' split
  all_goals first | rfl | (congr 1; omega) | (exfalso; omega)
theorem rotY_lt (x : Nat → Nat) {m i j : Nat} (h : i ≤ m) (hj : i < j) : rotY (swRY x (m - i) (m + j - i) i) (m - i) m (m + (j - i)) = rotY x (m - i) m (m + j) := by
  funext k
  unfold rotY swRY
  repeat' split
  all_goals first | rfl | (congr 1; omega) | (exfalso; omega)
theorem rotY_prm (x : Nat → Nat) {a m b : Nat} (h1 : a ≤ m) (h2 : m ≤ b) : PrmY x (rotY x a m b) a b := by
  refine ⟨fun i hi => ?_, fun i k1 k2 => ?_, fun j k1 k2 => ?_⟩
  · unfold rotY; rw [if_neg (by omega), if_neg (by omega)]
  · unfold rotY
    by_cases e : i < a + (b - m)
    · exact ⟨i + (m - a), by omega, by omega, by rw [if_pos (by omega)]⟩
    · exact ⟨i - (b - m), by omega, by omega, by rw [if_neg (by omega), if_pos (by omega)]⟩
  · by_cases e : j < m
    · exact ⟨j + (b - m), by omega, by omega, by unfold rotY; rw [if_neg (by omega), if_pos (by omega)]; congr 1; omega⟩
    · exact ⟨j - (m - a), by omega, by omega, by unfold rotY; rw [if_pos (by omega)]; congr 1; omega⟩
/-! one element moves -/
/-- the element a moves up to k -/
def mvUY (x : Nat → Nat) (a k : Nat) : Nat → Nat := fun p => if a ≤ p ∧ p < k then x (p + 1) else if p = k then x a else x p
theorem mvUY_zero (x : Nat → Nat) (a : Nat) : mvUY x a a = x := by
  funext p
  unfold mvUY
  repeat' split
  all_goals first | rfl | (congr 1; omega) | (exfalso; omega)
theorem mvUY_step (x : Nat → Nat) {a k : Nat} (h : a ≤ k) : swpY (mvUY x a k) k (k + 1) = mvUY x a (k + 1) := by
  funext p
  unfold swpY mvUY
  repeat' split
  all_goals first | rfl | (congr 1; omega) | (exfalso; omega)
/-- the element m moves down to k -/
def mvDY (x : Nat → Nat) (m k : Nat) : Nat → Nat := fun p => if k < p ∧ p ≤ m then x (p - 1) else if p = k then x m else x p
theorem mvDY_zero (x : Nat → Nat) (m : Nat) : mvDY x m m = x := by
  funext p
  unfold mvDY
  repeat' split
  all_goals first | rfl | (congr 1; omega) | (exfalso; omega)
theorem mvDY_step (x : Nat → Nat) {m k : Nat} (h : k + 1 ≤ m) : swpY (mvDY x m (k + 1)) (k + 1) k = mvDY x m k := by
  funext p
  unfold swpY mvDY
  repeat' split
  all_goals first | rfl | (congr 1; omega) | (exfalso; omega)
theorem mvUY_prm (x : Nat → Nat) {a k b : Nat} (h : a ≤ k) (hb : k < b) : PrmY x (mvUY x a k) a b := by
  refine ⟨fun i hi => ?_, fun i k1 k2 => ?_, fun j k1 k2 => ?_⟩
  · unfold mvUY; rw [if_neg (by omega), if_neg (by omega)]
  · unfold mvUY
    by_cases e : i < k
    · exact ⟨i + 1, by omega, by omega, by rw [if_pos (by omega)]⟩
    · by_cases e2 : i = k
      · exact ⟨a, by omega, by omega, by rw [if_neg (by omega), if_pos e2]⟩
      · exact ⟨i, k1, k2, by rw [if_neg (by omega), if_neg e2]⟩
  · by_cases e : j = a
    · exact ⟨k, h, hb, by unfold mvUY; rw [if_neg (by omega), if_pos rfl, e]⟩
    · by_cases e2 : j ≤ k
      · exact ⟨j - 1, by omega, by omega, by unfold mvUY; rw [if_pos (by omega)]; congr 1; omega⟩
      · exact ⟨j, k1, k2, by unfold mvUY; rw [if_neg (by omega), if_neg (by omega)]⟩
theorem mvDY_prm (x : Nat → Nat) {a m k b : Nat} (ha : a ≤ k) (h : k ≤ m) (hb : m < b) : PrmY x (mvDY x m k) a b := by
  refine ⟨fun i hi => ?_, fun i k1 k2 => ?_, fun j k1 k2 => ?_⟩
  · unfold mvDY; rw [if_neg (by omega), if_neg (by omega)]
  · unfold mvDY
    by_cases e : k < i ∧ i ≤ m
    · exact ⟨i - 1, by omega, by omega, by rw [if_pos e]⟩
    · by_cases e2 : i = k
      · exact ⟨m, by omega, by omega, by rw [if_neg e, if_pos e2]⟩
      · exact ⟨i, k1, k2, by rw [if_neg e, if_neg e2]⟩
  · by_cases e : j = m
    · exact ⟨k, ha, by omega, by unfold mvDY; rw [if_neg (by omega), if_pos rfl, e]⟩
    · by_cases e2 : k ≤ j ∧ j < m
      · exact ⟨j + 1, by omega, by omega, by unfold mvDY; rw [if_pos (by omega)]; congr 1⟩
      · exact ⟨j, k1, k2, by unfold mvDY; rw [if_neg (by omega), if_neg (by omega)]⟩
/-! merging -/
/-- two ranges side by side, each in order, the left one's places all smaller -/
structure MrgY (yr : Nat → Int) (x : Nat → Nat) (a m b : Nat) : Prop where
  l : SrtY yr x a m
  r : SrtY yr x m b
  sep : ∀ i j, a ≤ i → i < m → m ≤ j → j < b → x i < x j
theorem MrgY.same {yr : Nat → Int} {x y : Nat → Nat} {a m b : Nat} (h : MrgY yr x a m b) (ha : a ≤ m) (hb : m ≤ b) (e : ∀ i, a ≤ i → i < b → y i = x i) : MrgY yr y a m b :=
  ⟨h.l.same fun i h1 h2 => e i h1 (by omega), h.r.same fun i h1 h2 => e i (by omega) h2, fun i j h1 h2 h3 h4 => by rw [e i h1 (by omega), e j (by omega) h4]; exact h.sep i j h1 h2 h3 h4⟩
/-- one element on the left -/
theorem mrg_one_l {yr : Nat → Int} {x : Nat → Nat} {a b i : Nat} (h : MrgY yr x a (a + 1) b) (h1 : a + 1 ≤ i) (h2 : i ≤ b) (hl : i = a + 1 ∨ yr (x (i - 1)) < yr (x a)) (hr : i = b ∨ ¬ yr (x i) < yr (x a)) : SrtY yr (mvUY x a (i - 1)) a b := by
  have hlow : ∀ p, a + 1 ≤ p → p < i → lexY yr (x p) (x a) := fun p k1 k2 => by
    have h3 := hl.resolve_left (by omega)
    by_cases e : p = i - 1
    · rw [e]; exact .inl h3
    · exact (h.r p (i - 1) k1 (by omega) (by omega)).trans (.inl h3)
  have hhigh : ∀ p, i ≤ p → p < b → lexY yr (x a) (x p) := fun p k1 k2 => by
    have h3 := hr.resolve_left (by omega)
    have h4 : lexY yr (x a) (x i) := lexY_le (h.sep a i (by omega) (by omega) (by omega) (by omega)) h3
    by_cases e : p = i
    · rw [e]; exact h4
    · exact h4.trans (h.r i p (by omega) (by omega) k2)
  intro p q k1 k2 k3
  unfold mvUY
  by_cases p1 : p < i - 1
  · rw [if_pos (show a ≤ p ∧ p < i - 1 by omega)]
    by_cases q1 : q < i - 1
    · rw [if_pos (show a ≤ q ∧ q < i - 1 by omega)]; exact h.r (p + 1) (q + 1) (by omega) (by omega) (by omega)
    · rw [if_neg (show ¬ (a ≤ q ∧ q < i - 1) by omega)]
      by_cases q2 : q = i - 1
      · rw [if_pos q2]; exact hlow (p + 1) (by omega) (by omega)
      · rw [if_neg q2]; exact h.r (p + 1) q (by omega) (by omega) k3
  · rw [if_neg (show ¬ (a ≤ p ∧ p < i - 1) by omega), if_neg (show ¬ (a ≤ q ∧ q < i - 1) by omega), if_neg (show ¬ q = i - 1 by omega)]
    by_cases p2 : p = i - 1
    · rw [if_pos p2]; exact hhigh q (by omega) k3
    · rw [if_neg p2]; exact h.r p q (by omega) k2 k3
/-- one element on the right -/
theorem mrg_one_r {yr : Nat → Int} {x : Nat → Nat} {a m i : Nat} (h : MrgY yr x a m (m + 1)) (h1 : a ≤ i) (h2 : i ≤ m) (hl : i = a ∨ ¬ yr (x m) < yr (x (i - 1))) (hr : i = m ∨ yr (x m) < yr (x i)) : SrtY yr (mvDY x m i) a (m + 1) := by
  have hlow : ∀ p, a ≤ p → p < i → lexY yr (x p) (x m) := fun p k1 k2 => by
    have h3 := hl.resolve_left (by omega)
    have h4 : lexY yr (x (i - 1)) (x m) := lexY_le (h.sep (i - 1) m (by omega) (by omega) (by omega) (by omega)) h3
    by_cases e : p = i - 1
    · rw [e]; exact h4
    · exact (h.l p (i - 1) k1 (by omega) (by omega)).trans h4
  have hhigh : ∀ p, i ≤ p → p < m → lexY yr (x m) (x p) := fun p k1 k2 => by
    have h3 := hr.resolve_left (by omega)
    by_cases e : p = i
    · rw [e]; exact .inl h3
    · exact lexY.trans (.inl h3) (h.l i p (by omega) (by omega) k2)
  intro p q k1 k2 k3
  unfold mvDY
  by_cases p1 : p < i
  · rw [if_neg (show ¬ (i < p ∧ p ≤ m) by omega), if_neg (show ¬ p = i by omega)]
    by_cases q1 : q < i
    · rw [if_neg (show ¬ (i < q ∧ q ≤ m) by omega), if_neg (show ¬ q = i by omega)]; exact h.l p q k1 k2 (by omega)
    · by_cases q2 : q = i
      · rw [if_neg (show ¬ (i < q ∧ q ≤ m) by omega), if_pos q2]; exact hlow p k1 p1
      · rw [if_pos (show i < q ∧ q ≤ m by omega)]; exact h.l p (q - 1) k1 (by omega) (by omega)
  · rw [if_pos (show i < q ∧ q ≤ m by omega)]
    by_cases p2 : p = i
    · rw [if_neg (show ¬ (i < p ∧ p ≤ m) by omega), if_pos p2]; exact hhigh (q - 1) (by omega) (by omega)
    · rw [if_pos (show i < p ∧ p ≤ m by omega)]; exact h.l (p - 1) (q - 1) (by omega) (by omega) (by omega)
/-- the cut of a symmetric merge -/
structure CutY (yr : Nat → Int) (x y : Nat → Nat) (a mid b st en : Nat) : Prop where
  prm : PrmY x y a b
  lo : MrgY yr y a st mid
  hi : MrgY yr y mid en b
  cross : ∀ i j, a ≤ i → i < mid → mid ≤ j → j < b → lexY yr (y i) (y j)
theorem mrg_cut {yr : Nat → Int} {x : Nat → Nat} {a m b st en mid : Nat} (h : MrgY yr x a m b) (h1 : a ≤ st) (h2 : st ≤ m) (h3 : m ≤ en) (h4 : en ≤ b) (hm : st + en = mid + m)
    (hl : st = a ∨ en = b ∨ ¬ yr (x en) < yr (x (st - 1))) (hr : st = m ∨ en = m ∨ yr (x (en - 1)) < yr (x st)) : CutY yr x (rotY x st m en) a mid b st en := by
  have y1 : ∀ k, k < st → rotY x st m en k = x k := fun k hk => by unfold rotY; rw [if_neg (by omega), if_neg (by omega)]
  have y2 : ∀ k, st ≤ k → k < mid → rotY x st m en k = x (k + (m - st)) := fun k hk hk2 => by unfold rotY; rw [if_pos (by omega)]
  have y3 : ∀ k, mid ≤ k → k < en → rotY x st m en k = x (k - (en - m)) := fun k hk hk2 => by unfold rotY; rw [if_neg (by omega), if_pos (by omega)]
  have y4 : ∀ k, en ≤ k → rotY x st m en k = x k := fun k hk => by unfold rotY; rw [if_neg (by omega), if_neg (by omega)]
  have c1 : ∀ i j, a ≤ i → i < st → en ≤ j → j < b → lexY yr (x i) (x j) := fun i j k1 k2 k3 k4 => by
    have e1 := (hl.resolve_left (by omega)).resolve_left (by omega)
    have e2 : lexY yr (x (st - 1)) (x en) := lexY_le (h.sep (st - 1) en (by omega) (by omega) (by omega) (by omega)) e1
    have e3 : lexY yr (x i) (x en) := by
      by_cases e : i = st - 1
      · rw [e]; exact e2
      · exact (h.l i (st - 1) k1 (by omega) (by omega)).trans e2
    by_cases e : j = en
    · rw [e]; exact e3
    · exact e3.trans (h.r en j (by omega) (by omega) k4)
  have c2 : ∀ i j, m ≤ i → i < en → st ≤ j → j < m → lexY yr (x i) (x j) := fun i j k1 k2 k3 k4 => by
    have e1 := (hr.resolve_left (by omega)).resolve_left (by omega)
    have e3 : lexY yr (x i) (x st) := by
      by_cases e : i = en - 1
      · rw [e]; exact .inl e1
      · exact (h.r i (en - 1) k1 (by omega) (by omega)).trans (.inl e1)
    by_cases e : j = st
    · rw [e]; exact e3
    · exact e3.trans (h.l st j (by omega) (by omega) k4)
  refine ⟨(rotY_prm x h2 h3).wide h1 h4, ⟨fun i j k1 k2 k3 => ?_, fun i j k1 k2 k3 => ?_, fun i j k1 k2 k3 k4 => ?_⟩, ⟨fun i j k1 k2 k3 => ?_, fun i j k1 k2 k3 => ?_, fun i j k1 k2 k3 k4 => ?_⟩, fun i j k1 k2 k3 k4 => ?_⟩
  · rw [y1 i (by omega), y1 j k3]; exact h.l i j k1 k2 (by omega)
  · rw [y2 i k1 (by omega), y2 j (by omega) k3]; exact h.r _ _ (by omega) (by omega) (by omega)
  · rw [y1 i k2, y2 j k3 k4]; exact h.sep _ _ k1 (by omega) (by omega) (by omega)
  · rw [y3 i k1 (by omega), y3 j (by omega) k3]; exact h.l _ _ (by omega) (by omega) (by omega)
  · rw [y4 i k1, y4 j (by omega)]; exact h.r _ _ (by omega) k2 k3
  · rw [y3 i k1 k2, y4 j k3]; exact h.sep _ _ (by omega) (by omega) (by omega) k4
  · by_cases i1 : i < st
    · rw [y1 i i1]
      by_cases j1 : j < en
      · rw [y3 j k3 j1]; exact h.l _ _ k1 (by omega) (by omega)
      · rw [y4 j (by omega)]; exact c1 i j k1 i1 (by omega) k4
    · rw [y2 i (by omega) k2]
      by_cases j1 : j < en
      · rw [y3 j k3 j1]; exact c2 _ _ (by omega) (by omega) (by omega) (by omega)
      · rw [y4 j (by omega)]; exact h.r _ _ (by omega) (by omega) k4
/-- both halves are merged -/
theorem cut_done {yr : Nat → Int} {x y y1 y2 : Nat → Nat} {a mid b st en : Nat} (h : CutY yr x y a mid b st en) (ha : a ≤ mid) (hb : mid ≤ b) (p1 : PrmY y y1 a mid) (s1 : SrtY yr y1 a mid) (p2 : PrmY y1 y2 mid b) (s2 : SrtY yr y2 mid b) : PrmY x y2 a b ∧ SrtY yr y2 a b := by
  refine ⟨h.prm.trans ((p1.wide (Nat.le_refl _) hb).trans (p2.wide ha (Nat.le_refl _))), fun i j k1 k2 k3 => ?_⟩
  by_cases j1 : j < mid
  · rw [p2.out i (.inl (by omega)), p2.out j (.inl j1)]; exact s1 i j k1 k2 j1
  · by_cases i1 : i < mid
    · rw [p2.out i (.inl i1)]
      obtain ⟨i', g1, g2, g3⟩ := p1.fw i k1 i1
      obtain ⟨j', g4, g5, g6⟩ := p2.fw j (by omega) k3
      rw [g3, g6, p1.out j' (.inr g4)]
      exact h.cross i' j' g1 g2 g4 g5
    · exact s2 i j (by omega) k2 k3
/-- a range that is one half is in order already -/
theorem SrtY.of_l {yr : Nat → Int} {x : Nat → Nat} {a m b : Nat} (h : MrgY yr x a m b) (e : m = b) : SrtY yr x a b := by subst e; exact h.l
theorem SrtY.of_r {yr : Nat → Int} {x : Nat → Nat} {a m b : Nat} (h : MrgY yr x a m b) (e : a = m) : SrtY yr x a b := by subst e; exact h.r
/-- only one order of given members -/
theorem srtY_uniq {yr : Nat → Int} {x y : Nat → Nat} {n : Nat} (hx : SrtY yr x 0 n) (hy : SrtY yr y 0 n) (h1 : ∀ i, i < n → ∃ j, j < n ∧ x i = y j) (h2 : ∀ i, i < n → ∃ j, j < n ∧ y i = x j) : ∀ i, i < n → x i = y i := by
  intro i
  induction i using Nat.strongRecOn with
  | _ i ih =>
    intro hi
    obtain ⟨k, hk, e1⟩ := h1 i hi
    obtain ⟨l, hl, e2⟩ := h2 i hi
    have k1 : ¬ k < i := fun h => by
      have := ih k h hk
      exact (hx k i (Nat.zero_le _) h hi).ne (this.trans e1.symm)
    have l1 : ¬ l < i := fun h => by
      have := ih l h hl
      exact (hy l i (Nat.zero_le _) h hi).ne (this.symm.trans e2.symm)
    by_cases ek : k = i
    · rw [e1, ek]
    · by_cases el : l = i
      · rw [e2, el]
      · have a1 := hy i k (Nat.zero_le _) (by omega) hk
        have a2 := hx i l (Nat.zero_le _) (by omega) hl
        rw [← e1] at a1
        rw [← e2] at a2
        exact absurd a1 a2.asymm
end Go.Proofs.Ytmlnaedeghpbbaa
/- A stable sort by years, plain law, part 2: the reference's insertion. -/
namespace Go.Proofs.Ytmlnaedeghpbbaa

/-- where v comes in -/
def posY (yr : Nat → Int) (l : List Nat) (v : Nat) : Nat → Nat
  | 0 => 0
  | k + 1 => if yr v < yr (l.getD k 0) then posY yr l v k else k + 1
theorem posY_le (yr : Nat → Int) (l : List Nat) (v : Nat) : ∀ k, posY yr l v k ≤ k
  | 0 => Nat.le_refl _
  | k + 1 => by
    unfold posY
    split
    · exact Nat.le_succ_of_le (posY_le yr l v k)
    · exact Nat.le_refl _
theorem posY_lo (yr : Nat → Int) (l : List Nat) (v : Nat) : ∀ k, 0 < posY yr l v k → ¬ yr v < yr (l.getD (posY yr l v k - 1) 0)
  | 0 => fun h => absurd h (by unfold posY; omega)
  | k + 1 => by
    unfold posY
    by_cases e : yr v < yr (l.getD k 0)
    · rw [if_pos e]; exact posY_lo yr l v k
    · rw [if_neg e]; intro _; exact e
theorem posY_hi (yr : Nat → Int) (l : List Nat) (v : Nat) : ∀ k q, posY yr l v k ≤ q → q < k → yr v < yr (l.getD q 0)
  | 0 => fun q _ h => absurd h (by omega)
  | k + 1 => fun q h1 h2 => by
    unfold posY at h1
    by_cases e : yr v < yr (l.getD k 0)
    · rw [if_pos e] at h1
      by_cases e2 : q = k
      · rw [e2]; exact e
      · exact posY_hi yr l v k q h1 (by omega)
    · rw [if_neg e] at h1; omega
def insL (l : List Nat) (p v : Nat) : List Nat := l.take p ++ v :: l.drop p
theorem insL_len (l : List Nat) {p : Nat} (v : Nat) (h : p ≤ l.length) : (insL l p v).length = l.length + 1 := by
  unfold insL
  rw [List.length_append, List.length_cons, List.length_take, List.length_drop]
  omega
theorem insL_get (l : List Nat) {p : Nat} (v k : Nat) (h : p ≤ l.length) : (insL l p v).getD k 0 = if k < p then l.getD k 0 else if k = p then v else l.getD (k - 1) 0 := by
  have ht : (l.take p).length = p := by rw [List.length_take]; omega
  unfold insL
  rw [List.getD_eq_getElem?_getD]
  by_cases e : k < p
  · rw [if_pos e, List.getElem?_append_left (by omega), List.getElem?_take_of_lt e, List.getD_eq_getElem?_getD]
  · rw [if_neg e, List.getElem?_append_right (by omega), ht]
    by_cases e2 : k = p
    · rw [if_pos e2, e2, Nat.sub_self]; rfl
    · rw [if_neg e2]
      obtain ⟨d, rfl⟩ : ∃ d, k = p + 1 + d := ⟨k - p - 1, by omega⟩
      rw [show p + 1 + d - p = d + 1 by omega, List.getElem?_cons_succ, List.getElem?_drop, List.getD_eq_getElem?_getD, show p + 1 + d - 1 = p + d by omega]
def ordY (yr : Nat → Int) : Nat → List Nat
  | 0 => []
  | i + 1 => insL (ordY yr i) (posY yr (ordY yr i) i (ordY yr i).length) i
structure OrdY (yr : Nat → Int) (l : List Nat) (i : Nat) : Prop where
  len : l.length = i
  srt : SrtY yr (fun k => l.getD k 0) 0 i
  lt : ∀ k, k < i → l.getD k 0 < i
  all : ∀ v, v < i → ∃ k, k < i ∧ l.getD k 0 = v
theorem ordY_ok (yr : Nat → Int) : ∀ i, OrdY yr (ordY yr i) i
  | 0 => ⟨rfl, fun _ _ _ h1 h2 => by omega, fun _ h => absurd h (by omega), fun _ h => absurd h (by omega)⟩
  | i + 1 => by
    have h := ordY_ok yr i
    have hp := posY_le yr (ordY yr i) i (ordY yr i).length
    have hlo := posY_lo yr (ordY yr i) i (ordY yr i).length
    have hhi := posY_hi yr (ordY yr i) i (ordY yr i).length
    show OrdY yr (insL (ordY yr i) (posY yr (ordY yr i) i (ordY yr i).length) i) (i + 1)
    generalize posY yr (ordY yr i) i (ordY yr i).length = p at *
    generalize ordY yr i = l at *
    have hl := h.len
    have hg : ∀ k, (insL l p i).getD k 0 = if k < p then l.getD k 0 else if k = p then i else l.getD (k - 1) 0 := fun k => insL_get l i k hp
    have hlow : ∀ k, k < p → lexY yr (l.getD k 0) i := fun k hk => by
      have e1 : lexY yr (l.getD (p - 1) 0) i := lexY_le (h.lt (p - 1) (by omega)) (hlo (by omega))
      by_cases e : k = p - 1
      · rw [e]; exact e1
      · exact (h.srt k (p - 1) (Nat.zero_le _) (by omega) (by omega)).trans e1
    have hhigh : ∀ k, p ≤ k → k < i → lexY yr i (l.getD k 0) := fun k h1 h2 => .inl (hhi k h1 (by omega))
    refine ⟨by rw [insL_len l i hp, hl], fun a b _ h2 h3 => ?_, fun k hk => ?_, fun v hv => ?_⟩
    · show lexY yr ((insL l p i).getD a 0) ((insL l p i).getD b 0)
      rw [hg, hg]
      by_cases a1 : a < p
      · rw [if_pos a1]
        by_cases b1 : b < p
        · rw [if_pos b1]; exact h.srt a b (Nat.zero_le _) h2 (by omega)
        · rw [if_neg b1]
          by_cases b2 : b = p
          · rw [if_pos b2]; exact hlow a a1
          · rw [if_neg b2]; exact h.srt a (b - 1) (Nat.zero_le _) (by omega) (by omega)
      · rw [if_neg a1, if_neg (show ¬ b < p by omega), if_neg (show ¬ b = p by omega)]
        by_cases a2 : a = p
        · rw [if_pos a2]; exact hhigh (b - 1) (by omega) (by omega)
        · rw [if_neg a2]; exact h.srt (a - 1) (b - 1) (Nat.zero_le _) (by omega) (by omega)
    · rw [hg]
      by_cases k1 : k < p
      · rw [if_pos k1]; have := h.lt k (by omega); omega
      · rw [if_neg k1]
        by_cases k2 : k = p
        · rw [if_pos k2]; omega
        · rw [if_neg k2]; have := h.lt (k - 1) (by omega); omega
    · by_cases e : v = i
      · exact ⟨p, by omega, by rw [hg, if_neg (by omega), if_pos rfl, e]⟩
      · obtain ⟨k, hk, he⟩ := h.all v (by omega)
        by_cases k1 : k < p
        · exact ⟨k, by omega, by rw [hg, if_pos k1, he]⟩
        · exact ⟨k + 1, by omega, by rw [hg, if_neg (by omega), if_neg (by omega)]; exact he⟩
/-- what the sort leaves is the reference's order -/
theorem sort_ord {yr : Nat → Int} {x : Nat → Nat} {n : Nat} (hs : SrtY yr x 0 n) (hp : PrmY id x 0 n) : ∀ i, i < n → x i = (ordY yr n).getD i 0 := by
  have h := ordY_ok yr n
  refine srtY_uniq hs h.srt (fun i hi => ?_) (fun i hi => ?_)
  · obtain ⟨j, _, hj, e⟩ := hp.fw i (Nat.zero_le _) hi
    obtain ⟨k, hk, he⟩ := h.all j hj
    exact ⟨k, hk, by rw [e]; exact he.symm⟩
  · obtain ⟨j, _, hj, e⟩ := hp.bw ((ordY yr n).getD i 0) (Nat.zero_le _) (h.lt i hi)
    exact ⟨j, hj, e.symm⟩
end Go.Proofs.Ytmlnaedeghpbbaa
/- Small laws for quiet calls. -/
namespace Go.Proofs.Ytmlnaedeghpbbaa
open Go.RowKit Go.Joins

theorem rdN {w w' : World} {v : Value} {n sz : Nat} {cs : List Value} (h : Rd w w.heap.size v n sz cs) (hb : Below w.heap.size w w') : Rd w' w'.heap.size v n sz cs := (h.below hb).more hb.size
theorem own_posC {w : World} {base n size : Nat} {e : TypeId} {v : Value} {cs : List Value} (h : w.ownsRow base e size v n cs) (hn : 0 < n) : ∃ g cap, v = .slice (some ⟨g, 0, none⟩) n cap ∧ n ≤ cap ∧ cap ≤ maxLen := by
  rcases h.2 with ⟨_, h0⟩ | ⟨g, cap, _, hv, _, _, h1, h2, _⟩
  · omega
  · exact ⟨g, cap, hv, h1, h2⟩
theorem flipQ {P : Program} {f : FuncId} {args : Array Value} {w : World} {v : Value} (h : Calls P f args w fun e w' => e = .returned v ∧ w = w') : Calls P f args w fun e w' => e = .returned v ∧ w' = w :=
  h.mono fun _ _ ⟨h1, h2⟩ => ⟨h1, h2.symm⟩
theorem abs_mul {a b A B : Int} (ha : -A ≤ a ∧ a ≤ A) (hb : -B ≤ b ∧ b ≤ B) : -(A * B) ≤ a * b ∧ a * b ≤ A * B := by
  have h1 : a.natAbs ≤ A.natAbs := by omega
  have h2 : b.natAbs ≤ B.natAbs := by omega
  have h3 : (a * b).natAbs ≤ A.natAbs * B.natAbs := by rw [Int.natAbs_mul]; exact Nat.mul_le_mul h1 h2
  have h4 : (A * B).natAbs = A.natAbs * B.natAbs := Int.natAbs_mul A B
  have h5 : 0 ≤ A * B := Int.mul_nonneg (by omega) (by omega)
  omega

/-- a result of two fields in a block of its own: ahead of the store -/
theorem res2_pre {w w2 : World} {x y : Value} {t : TypeId} (h : Below (w.alloc (.cells #[x, y] t)).heap.size (w.alloc (.cells #[x, y] t)) w2) :
    w2.cell? ⟨w.heap.size, 0, none⟩ = some x ∧ w2.cell? ⟨w.heap.size, 1, none⟩ = some y ∧ w2.frozen? ⟨w.heap.size, 0, none⟩ = false ∧ w2.frozen? ⟨w.heap.size, 1, none⟩ = false :=
  blk2 ((h.block w.heap.size (by simp)).trans (heap_alloc_new w _))
/-- .. and behind it -/
theorem res2_post {w w2 : World} {x y : Value} {t : TypeId} (h : Below (w.alloc (.cells #[x, y] t)).heap.size (w.alloc (.cells #[x, y] t)) w2) (a b : Value) :
    ((w2.setCell ⟨w.heap.size, 0, none⟩ a).setCell ⟨w.heap.size, 1, none⟩ b).cell? ⟨w.heap.size, 0, none⟩ = some a ∧ ((w2.setCell ⟨w.heap.size, 0, none⟩ a).setCell ⟨w.heap.size, 1, none⟩ b).cell? ⟨w.heap.size, 1, none⟩ = some b ∧
    Below w.heap.size w ((w2.setCell ⟨w.heap.size, 0, none⟩ a).setCell ⟨w.heap.size, 1, none⟩ b) := by
  have g := heap_setCell_same _ w.heap.size 1 _ _ b (heap_setCell_same w2 w.heap.size 0 _ _ a ((h.block w.heap.size (by simp)).trans (heap_alloc_new w _)))
  obtain ⟨p, q, _, _⟩ := blk2 g
  exact ⟨p, q, ((((Below.refl w.heap.size w).alloc (Nat.le_refl _) _).trans (h.mono (by simp))).setCell (p := ⟨w.heap.size, 0, none⟩) (Nat.le_refl _) a).setCell (p := ⟨w.heap.size, 1, none⟩) (Nat.le_refl _) b⟩
theorem res2_own {w2 : World} {base B n sz : Nat} {e : TypeId} {v : Value} {xs : List Value} (h : w2.ownsRow base e sz v n xs) {g : Nat} (hg : g < base) (hB : B ≤ base) (a b : Value) : ((w2.setCell ⟨g, 0, none⟩ a).setCell ⟨g, 1, none⟩ b).ownsRow B e sz v n xs :=
  ownsRow_le (ownsRow_setCell_below (ownsRow_setCell_below h (a := ⟨g, 0, none⟩) hg a) (a := ⟨g, 1, none⟩) hg b) hB
/-- a boxed argument of two fields -/
theorem box2 {w : World} {x y : Value} {t : TypeId} : (w.alloc (.cells #[x, y] t)).cell? ⟨w.heap.size, 0, none⟩ = some x ∧ (w.alloc (.cells #[x, y] t)).cell? ⟨w.heap.size, 1, none⟩ = some y :=
  have h := blk2 (heap_alloc_new w (.cells #[x, y] t))
  ⟨h.1, h.2.1⟩

theorem cell_alloc {w : World} {g i : Nat} {v : Value} (h : w.cell? ⟨g, i, none⟩ = some v) (o : Obj) : (w.alloc o).cell? ⟨g, i, none⟩ = some v :=
  (((Below.refl w.heap.size w).alloc (Nat.le_refl _) o).cell (p := ⟨g, i, none⟩) (World.block_lt_of_cell? w _ h)).trans h
/-- append of new elements at a step of a region that draws, where the world has no draw of its own (behind a call) -/
theorem step_apd0 {P : Program} {w : World} {ops : Array Oper} {o : Oper} {a : Act} {K : Act → World → Prop} {Q : Exit → Act → World → Prop} {E : Prop} (t e : TypeId) (z : Value) (size bytes : Nat)
    (ht : P.underlying t = some (.slice e)) (hinfo : (P.info? e).map (fun i => (i.zero, i.size, i.bytes)) = some (some z, size, bytes)) (hzs : z.cells.size = size) (hsz : 0 < size)
    (s x : Operand) (hgd : o.guard = none) (ho : o.op = .call { callee := .builtin .append, args := #[s, x], argTypes := #[t, t] })
    (base : Nat) (v : Value) (n : Nat) (xs : List Value) (hs : a.eval s = v) (hown : w.ownsRow base e size v n xs)
    (cs : Array Value) (m c : Nat) (hx : a.eval x = .slice (some ⟨w.heap.size, 0, none⟩) m c) (hl : cs.toList.length = m * size) (h1 : ∀ u ∈ cs.toList, u.oneCell' = true)
    (h63 : n + m ≤ maxLen) (hbytes : (n + m) * bytes ≤ 140737488355328) (hbase : base ≤ w.heap.size)
    (h : ∀ v' w', w'.ownsRow base e size v' (n + m) (xs ++ cs.toList) → w.grownBy w' v.ownBlock → K (a.put o.dst v') w') :
    if Region.wanted o (yielded ops a.tmps) = true then Oper.wp P o a (w.alloc (.cells cs e)) K Q else E := by
  have hw : Region.wanted o (yielded ops a.tmps) = true := by simp [Region.wanted, hgd]
  rw [if_pos hw]
  exact wp_apd (w := w) t e z size bytes ht hinfo hzs hsz s x ho base v n xs hs hown cs m c hx hl h1 h63 hbytes hbase h
end Go.Proofs.Ytmlnaedeghpbbaa
/- What a law's arguments read as, in the words of the walks: slices of numbers, of bytes. -/
namespace Go.Proofs.Ytmlnaedeghpbbaa
open Go.ChangeShapes Go.WideShapes Go.ChangeAt Go.RowKit

section
variable {H : Type} {enc : TypeId × Value → H} {P : Program} {W : World}

theorem rd_ints {T E base : Nat} {k : IntKind} {r : Reach} {v : Value} {d : DataW H} {p : List MemPlace} (hT : P.underlying T = some (.slice E)) (hE : P.underlying E = some (.int k)) (hC : P.cellsOf E = 1)
    (ok : Value.okWide P W r base T v) (h : DataW.Trod enc P W 0 (fun _ => true) true T v d p) :
    ∃ zs : List Int, Rd W W.heap.size v zs.length 1 (zs.map (.int k)) ∧ zs.length ≤ maxLen ∧ ∀ z ∈ zs, (Lit.int k z).wf = true := by
  obtain ⟨a0, len, cap, rfl⟩ := okWide_slice hT ok
  obtain ⟨fuel, hf⟩ := h
  rcases open_ints hT hE hC hf with ⟨hcs, hx⟩ | ⟨a, len', cap', zs, hcs, _, hl, hm, hz, hx, hcell, hwz⟩
  · simp [Value.cells] at hcs
    obtain ⟨rfl, rfl, rfl⟩ := hcs
    exact ⟨[], ⟨rfl, none, 0, rfl, fun h => by simp at h⟩, by simp [maxLen], by simp⟩
  · simp [Value.cells] at hcs
    obtain ⟨rfl, rfl, rfl⟩ := hcs
    have hz' : zs.length = cap := by simpa using hz
    have hlen : (zs.take len).length = len := by rw [List.length_take]; omega
    refine ⟨zs.take len, ?_, by rw [hlen]; omega, fun z hzz => hwz z (List.mem_of_mem_take hzz)⟩
    rw [hlen]
    refine ⟨by simp; omega, some a, cap, rfl, fun hn => ?_⟩
    obtain ⟨b, off, rfl, hc⟩ := ints_at hcell (by omega)
    refine ⟨b, off, rfl, World.block_lt_of_cell? W _ (hc 0 (by omega)), fun i u hu => ?_⟩
    have hi : i < len := by
      have := (List.getElem?_eq_some_iff.1 hu).1
      simp at this; omega
    rw [hc i (by omega), ← hu]
    simp [hi, List.getD, (show i < zs.length by omega)]

theorem rd_bytes {T E base : Nat} {r : Reach} {v : Value} {d : DataW H} {p : List MemPlace} (hT : P.underlying T = some (.slice E)) (hE : P.underlying E = some (.int .u8)) (hC : P.cellsOf E = 1)
    (ok : Value.okWide P W r base T v) (h : DataW.Trod enc P W 0 (fun _ => true) true T v d p) :
    ∃ bs : List UInt8, Rd W W.heap.size v bs.length 1 (bs.map byV) ∧ bs.length ≤ maxLen := by
  obtain ⟨zs, h1, h2, h3⟩ := rd_ints hT hE hC ok h
  refine ⟨zs.map fun z => UInt8.ofNat z.toNat, ?_, by simpa using h2⟩
  have e : (zs.map fun z => UInt8.ofNat z.toNat).map byV = zs.map (.int .u8) := by
    rw [List.map_map]
    refine List.map_congr_left fun z hz => ?_
    have hb := bounds_u8 (h3 z hz)
    simp only [Function.comp, byV, UInt8.toNat_ofNat']
    congr 1
    omega
  rw [e]
  simpa using h1
end
end Go.Proofs.Ytmlnaedeghpbbaa
/- What a law's arguments read as: slices of structs, as rows of cells. -/
namespace Go.Proofs.Ytmlnaedeghpbbaa
open Go.ChangeShapes Go.WideShapes Go.ChangeAt Go.RowKit

/-- rows of equal width: cell j of row k -/
theorem flat_at {α : Type} (cells : α → List Value) (sz : Nat) (hc : ∀ x, (cells x).length = sz) : ∀ (xs : List α) (k j : Nat) (hk : k < xs.length), j < sz → (xs.flatMap cells)[k * sz + j]? = (cells xs[k])[j]?
  | [], k, j, hk, _ => by simp at hk
  | x :: xs, 0, j, _, hj => by
    rw [List.flatMap_cons, Nat.zero_mul, Nat.zero_add, List.getElem?_append_left (by rw [hc]; exact hj)]; rfl
  | x :: xs, k + 1, j, hk, hj => by
    rw [List.flatMap_cons, List.getElem?_append_right (by rw [hc, Nat.succ_mul]; omega), hc]
    have e : (k + 1) * sz + j - sz = k * sz + j := by rw [Nat.succ_mul]; omega
    rw [e, flat_at cells sz hc xs k j (by simpa using hk) hj]
    simp
theorem flat_len {α : Type} (cells : α → List Value) (sz : Nat) (hc : ∀ x, (cells x).length = sz) : ∀ xs : List α, (xs.flatMap cells).length = xs.length * sz
  | [] => by simp
  | x :: xs => by
    rw [List.flatMap_cons, List.length_append, hc, flat_len cells sz hc xs, List.length_cons, Nat.succ_mul]; omega

section
variable {H : Type} {enc : TypeId × Value → H} {P : Program} {W : World}

theorem rd_rows {α : Type} (cells : α → List Value) (good : α → Prop) {T E base sz : Nat} {r : Reach} {v : Value} {d : DataW H} {p : List MemPlace} (hT : P.underlying T = some (.slice E)) (hC : P.cellsOf E = sz) (hsz : 0 < sz) (hc : ∀ x, (cells x).length = sz)
    (elem : ∀ n cs y, DataW.trod enc P W 0 (fun _ => true) true n E cs = some y → ∃ x, cs = cells x ∧ good x)
    (ok : Value.okWide P W r base T v) (h : DataW.Trod enc P W 0 (fun _ => true) true T v d p) :
    ∃ xs : List α, Rd W W.heap.size v xs.length sz (xs.flatMap cells) ∧ xs.length ≤ maxLen ∧ ∀ x ∈ xs, good x := by
  obtain ⟨a0, len, cap, rfl⟩ := okWide_slice hT ok
  obtain ⟨fuel, hf⟩ := h
  rcases Go.Deep.open_slice hT hf with ⟨hcs, hx⟩ | ⟨a, len', cap', m, n, D, Pl, hcs, _, hl, hm, hmm, hx, hi⟩
  · simp [Value.cells] at hcs
    obtain ⟨rfl, rfl, rfl⟩ := hcs
    exact ⟨[], ⟨by simp, none, 0, rfl, fun h => by simp at h⟩, by simp [maxLen], by simp⟩
  · simp [Value.cells] at hcs
    obtain ⟨rfl, rfl, rfl⟩ := hcs
    have hm' : m = cap := by simpa using hmm
    subst hm'
    have hel : ∀ i : Nat, i < m → ∃ x, good x ∧ W.cells? 0 (a.add (i * sz)) sz = some (cells x) := fun i hi' => by
      obtain ⟨cs', h1, h2⟩ := hi i hi'
      obtain ⟨x, rfl, hg⟩ := elem _ _ _ h2
      rw [hC] at h1
      exact ⟨x, hg, h1⟩
    have hch : ∃ f : Fin len → α, ∀ i : Fin len, good (f i) ∧ W.cells? 0 (a.add (i * sz)) sz = some (cells (f i)) :=
      ⟨fun i => Classical.choose (hel i (by have := i.2; omega)), fun i => Classical.choose_spec (hel i (by have := i.2; omega))⟩
    obtain ⟨f, hff⟩ := hch
    have hlen : (List.ofFn f).length = len := List.length_ofFn
    refine ⟨List.ofFn f, ?_, by rw [hlen]; omega, fun x hx => ?_⟩
    · rw [hlen]
      refine ⟨by rw [flat_len cells sz hc, hlen], some a, m, rfl, fun hn => ?_⟩
      have hl0 : 0 < len := by
        rcases Nat.eq_zero_or_pos len with h | h
        · subst h; simp at hn
        · exact h
      have hcell : ∀ (k : Nat) (hk : k < len) (j : Nat), j < sz → W.cell? ((a.add (k * sz)).add j) = (cells (f ⟨k, hk⟩))[j]? := fun k hk j hj =>
        (World.cells?_some (hff ⟨k, hk⟩).2).2.2 j hj
      obtain ⟨b, off, spot⟩ := a
      have h00 := hcell 0 hl0 0 hsz
      rw [List.getElem?_eq_getElem (by rw [hc]; exact hsz)] at h00
      have hspot : spot = none := by simpa [Addr.add] using World.cell?_spot h00
      subst hspot
      have hadd : ∀ k j, ((⟨b, off, none⟩ : Addr).add (k * sz)).add j = ⟨b, off + (k * sz + j), none⟩ := fun k j => by
        rw [Go.WideShapes.add_plain, Go.WideShapes.add_plain, Nat.add_assoc]
      rw [hadd] at h00
      refine ⟨b, off, rfl, World.block_lt_of_cell? W _ h00, fun i u hu => ?_⟩
      have hil : i < len * sz := by
        have := (List.getElem?_eq_some_iff.1 hu).1
        rwa [flat_len cells sz hc, hlen] at this
      have hk : i / sz < len := by rw [Nat.div_lt_iff_lt_mul hsz]; exact hil
      have hj : i % sz < sz := Nat.mod_lt _ hsz
      have hdm : i / sz * sz + i % sz = i := by rw [Nat.mul_comm]; exact Nat.div_add_mod i sz
      have h1 := hcell (i / sz) hk (i % sz) hj
      rw [hadd, hdm] at h1
      have h2 := flat_at cells sz hc (List.ofFn f) (i / sz) (i % sz) (by rw [hlen]; exact hk) hj
      rw [hdm, List.getElem_ofFn] at h2
      rw [h1, ← h2, hu]
    · obtain ⟨i, rfl⟩ := List.mem_ofFn.1 hx
      exact (hff i).1
end
end Go.Proofs.Ytmlnaedeghpbbaa
/- A stable sort by years, part 3: the row that is sorted. -/
namespace Go.Proofs.Ytmlnaedeghpbbaa
open Go.RowKit Go.Joins

def cellsY (en : Nat → List Value) (x : Nat → Nat) (n : Nat) : List Value := (List.range n).flatMap fun k => en (x k)
theorem cellsY_len {en : Nat → List Value} (h5 : ∀ u, (en u).length = 5) (x : Nat → Nat) : ∀ n : Nat, (cellsY en x n).length = n * 5
  | 0 => rfl
  | n + 1 => by
    have := cellsY_len h5 x n
    unfold cellsY at *
    rw [List.range_succ, List.flatMap_append, List.length_append, this]
    simp [h5]
    omega
theorem cellsY_at {en : Nat → List Value} (h5 : ∀ u, (en u).length = 5) (x : Nat → Nat) {n k j : Nat} (hk : k < n) (hj : j < 5) : (cellsY en x n)[k * 5 + j]? = (en (x k))[j]? := by
  have := flat_at (fun k => en (x k)) 5 (fun k => h5 _) (List.range n) k j (by simpa using hk) hj
  unfold cellsY
  rw [this, List.getElem_range]
def setLY (l : List Value) : Nat → List Value → List Value
  | _, [] => l
  | o, v :: r => setLY (l.set o v) (o + 1) r
theorem setLY_len : ∀ (vs : List Value) (o : Nat) (l : List Value), (setLY l o vs).length = l.length
  | [], _, _ => rfl
  | v :: r, o, l => by rw [setLY, setLY_len r]; exact List.length_set
theorem setLY_get : ∀ (vs : List Value) (o : Nat) (l : List Value) (t : Nat), t < l.length → (setLY l o vs)[t]? = if o ≤ t ∧ t < o + vs.length then vs[t - o]? else l[t]?
  | [], o, l, t, _ => by
    rw [setLY, if_neg (by rw [List.length_nil]; omega)]
  | v :: r, o, l, t, h => by
    rw [setLY, setLY_get r (o + 1) _ t (by rw [List.length_set]; exact h)]
    by_cases h1 : o + 1 ≤ t ∧ t < o + 1 + r.length
    · rw [if_pos h1, if_pos (by rw [List.length_cons]; omega)]
      obtain ⟨u, rfl⟩ : ∃ u, t = o + 1 + u := ⟨t - (o + 1), by omega⟩
      rw [show o + 1 + u - (o + 1) = u by omega, show o + 1 + u - o = u + 1 by omega, List.getElem?_cons_succ]
    · rw [if_neg h1]
      by_cases h2 : t = o
      · subst h2
        rw [if_pos (by rw [List.length_cons]; omega), Nat.sub_self, List.getElem?_set_self h]; rfl
      · rw [if_neg (by rw [List.length_cons]; omega), List.getElem?_set_ne (by omega)]
theorem cellsY_swp {en : Nat → List Value} (h5 : ∀ u, (en u).length = 5) (x : Nat → Nat) {n i k : Nat} (hi : i < n) (hk : k < n) :
    setLY (setLY (cellsY en x n) (i * 5) (en (x k))) (k * 5) (en (x i)) = cellsY en (swpY x i k) n := by
  have hl := cellsY_len h5 x n
  have hl2 := cellsY_len h5 (swpY x i k) n
  refine List.ext_getElem? fun t => ?_
  by_cases ht : t < n * 5
  · obtain ⟨q, j, rfl, hj⟩ : ∃ q j, t = q * 5 + j ∧ j < 5 := ⟨t / 5, t % 5, by omega, by omega⟩
    have hq : q < n := by omega
    rw [setLY_get _ _ _ _ (by rw [setLY_len, hl]; exact ht), setLY_get _ _ _ _ (by rw [hl]; exact ht), cellsY_at h5 _ hq hj, cellsY_at h5 _ hq hj, h5, h5]
    unfold swpY
    by_cases e1 : q = k
    · subst e1
      rw [if_pos (by omega), show q * 5 + j - q * 5 = j by omega]
      by_cases e2 : q = i
      · rw [if_pos e2, e2]
      · rw [if_neg e2, if_pos rfl]
    · rw [if_neg (by omega)]
      by_cases e2 : q = i
      · subst e2
        rw [if_pos (by omega), if_pos rfl, show q * 5 + j - q * 5 = j by omega]
      · rw [if_neg (by omega), if_neg e2, if_neg e1]
  · rw [List.getElem?_eq_none (by rw [setLY_len, setLY_len, hl]; omega), List.getElem?_eq_none (by rw [hl2]; omega)]
theorem own_setCells {base g n c : Nat} {e : TypeId} : ∀ (vs : List Value) (o : Nat) (w : World) (xs : List Value), w.ownsRow base e 5 (.slice (some ⟨g, 0, none⟩) n c) n xs →
    (w.setCells g o vs).ownsRow base e 5 (.slice (some ⟨g, 0, none⟩) n c) n (setLY xs o vs) ∧ w.grownBy (w.setCells g o vs) (some g)
  | [], _, w, _, h => ⟨h, ⟨rfl, rfl, rfl, Nat.le_refl _, fun _ _ _ => rfl⟩⟩
  | v :: r, o, w, xs, h => by
    obtain ⟨h1, h2⟩ := h.stored o v
    obtain ⟨h3, h4⟩ := own_setCells r (o + 1) _ _ h1
    exact ⟨h3, grown_trans h2 h4⟩
/-- the row holds the entries in the order x; the variable of the closure points at it -/
structure StY (base blk n c qo : Nat) (en : Nat → List Value) (w : World) (x : Nat → Nat) : Prop where
  row : w.ownsRow base 39 5 (.slice (some ⟨blk, 0, none⟩) n c) n (cellsY en x n)
  ord : w.cell? ⟨qo, 0, none⟩ = some (.slice (some ⟨blk, 0, none⟩) n c)
  qlt : qo < w.heap.size
  qne : qo ≠ blk
theorem StY.blt {base blk n c qo : Nat} {en : Nat → List Value} {w : World} {x : Nat → Nat} (h : StY base blk n c qo en w x) : base ≤ blk ∧ blk < w.heap.size := h.row.lt blk rfl
theorem StY.below {base blk n c qo : Nat} {en : Nat → List Value} {w w' : World} {x : Nat → Nat} (h : StY base blk n c qo en w x) (hb : Below w.heap.size w w') : StY base blk n c qo en w' x :=
  ⟨own_below h.row hb, (hb.cell (p := ⟨qo, 0, none⟩) h.qlt).trans h.ord, Nat.lt_of_lt_of_le h.qlt hb.size, h.qne⟩
theorem StY.drewN {base blk n c qo : Nat} {en : Nat → List Value} {w : World} {x : Nat → Nat} (h : StY base blk n c qo en w x) (d : Nat) : StY base blk n c qo en (w.drewN d) x := ⟨h.row.drewN d, h.ord, h.qlt, h.qne⟩
/-- two entries change places -/
def swWY (w : World) (blk : Nat) (en : Nat → List Value) (x : Nat → Nat) (i k : Nat) : World := (w.setCells blk (0 + i * 5) (en (x k))).setCells blk (0 + k * 5) (en (x i))
theorem StY.swap {base blk n c qo : Nat} {en : Nat → List Value} {w : World} {x : Nat → Nat} (h : StY base blk n c qo en w x) (h5 : ∀ u, (en u).length = 5) {i k : Nat} (hi : i < n) (hk : k < n) : StY base blk n c qo en (swWY w blk en x i k) (swpY x i k) ∧ w.grownBy (swWY w blk en x i k) (some blk) := by
  unfold swWY
  rw [Nat.zero_add, Nat.zero_add]
  obtain ⟨h1, h2⟩ := own_setCells (en (x k)) (i * 5) w _ h.row
  obtain ⟨h3, h4⟩ := own_setCells (en (x i)) (k * 5) _ _ h1
  rw [cellsY_swp h5 x hi hk] at h3
  have hg := grown_trans h2 h4
  exact ⟨⟨h3, (World.cell?_of_block (a := ⟨qo, 0, none⟩) (hg.block qo h.qlt (fun e => h.qne (by injection e)))).trans h.ord, Nat.lt_of_lt_of_le h.qlt hg.size, h.qne⟩, hg⟩
theorem StY.at' {base blk n c qo : Nat} {en : Nat → List Value} {w : World} {x : Nat → Nat} (h : StY base blk n c qo en w x) (h5 : ∀ u, (en u).length = 5) {i j : Nat} (hi : i < n) (hj : j < 5) {u : Value} (hu : (en (x i))[j]? = some u) : w.cell? ⟨blk, i * 5 + j, none⟩ = some u :=
  (h.row.cellAt (i * 5 + j) (by omega)).trans ((cellsY_at h5 x hi hj).trans hu)
end Go.Proofs.Ytmlnaedeghpbbaa
/- Contracts for the small helpers (l00In, between). -/
namespace Go.Proofs.Ytmlnaedeghpbbaa
open Go.RowKit

def inB (n low high : Int) : Bool := decide (low ≤ n) && decide (n ≤ high)

set_option maxHeartbeats 400000 in
theorem l00In_any (n low high : Int) (w : World) :
    Calls Try.prog 32 #[.int .i64 n, .int .i64 low, .int .i64 high] w fun e w' => e = .returned (.bool (inB n low high)) ∧ w = w' := by
  go_enter Try.func32, Try.ntmps32
  go_wp2
  all_goals (first | go_ret | skip)
  all_goals (refine ⟨?_, rfl⟩; simp_all [inB] <;> omega)

set_option maxHeartbeats 400000 in
theorem between_any (n low high : Int) (w : World) :
    Calls Try.prog 34 #[.int .i64 n, .int .i64 low, .int .i64 high] w fun e w' => e = .returned (.bool (inB n low high)) ∧ w = w' := by
  go_enter Try.func34, Try.ntmps34
  go_wp2
  all_goals (first | go_ret | skip)
  all_goals (refine ⟨?_, rfl⟩; simp_all [inB] <;> omega)

end Go.Proofs.Ytmlnaedeghpbbaa
/- A stable sort by years, part 4: the library's insertion sort and its change of two ranges. -/
namespace Go.Proofs.Ytmlnaedeghpbbaa
open Go.RowKit Go.Joins

/-- what the library is given: the caller's comparison, the swap of two entries -/
structure EnvY (g : Nat) (lb : Array Value) (sf : Nat) (sb : Array Value) (base blk n c qo : Nat) (en : Nat → List Value) (yr : Nat → Int) : Prop where
  h5 : ∀ u, (en u).length = 5
  n1 : n ≤ 1000
  enter : ∀ args w, (callFunc g args).run Try.prog w = .ok (.enter g args) w
  less : ∀ (w : World) (x : Nat → Nat) (i k : Nat), StY base blk n c qo en w x → i < n → k < n → Calls Try.prog g (#[.int .i64 (i : Int), .int .i64 (k : Int)] ++ lb) w fun e w' => e = .returned (.bool (decide (yr (x i) < yr (x k)))) ∧ ∃ d, w' = w.drewN d
  swap : ∀ (w : World) (x : Nat → Nat) (i k : Nat), StY base blk n c qo en w x → i < n → k < n → 2 ≤ n → (callFunc sf (#[.int .i64 (i : Int), .int .i64 (k : Int)] ++ sb)).run Try.prog w = .ok (.value (.tuple #[])) (swWY w blk en x i k)
/-- the row is left in another order -/
def DoneY (base blk n c qo : Nat) (en : Nat → List Value) (w : World) (Q : (Nat → Nat) → Prop) (e : Ending) (w' : World) : Prop := e = .returned (.tuple #[]) ∧ ∃ y, Q y ∧ StY base blk n c qo en w' y ∧ w.grownBy w' (some blk)
theorem grown_drewN {w w1 : World} {r : Option Nat} (h : w.grownBy w1 r) (d : Nat) : w.grownBy (w1.drewN d) r := grown_below h (below_drewN (Below.refl _ _) d)
theorem boxY {w w1 : World} {blk : Nat} {a b : Value} {t : TypeId} (h : (w.alloc (.cells #[a, b] t)).grownBy w1 (some blk)) (hb : blk < w.heap.size) : w1.cell? ⟨w.heap.size, 0, none⟩ = some a ∧ w1.cell? ⟨w.heap.size, 1, none⟩ = some b := by
  have hq : w1.heap[w.heap.size]? = some (.cells #[a, b] t (0, 0)) := (h.block w.heap.size (by simp) (fun e => by injection e; omega)).trans (heap_alloc_new w _)
  exact ⟨by simp [World.cell?, hq], by simp [World.cell?, hq]⟩
theorem grown_boxY {w w1 : World} {blk : Nat} {o : Obj} (h : (w.alloc o).grownBy w1 (some blk)) : w.grownBy w1 (some blk) := grown_trans (grown_of_below ((Below.refl w.heap.size w).alloc (Nat.le_refl _) o) (some blk)) h
set_option maxRecDepth 100000 in
set_option maxHeartbeats 3200000 in
theorem swapRange_any {g : Nat} {lb : Array Value} {sf : Nat} {sb : Array Value} {base blk n c qo : Nat} {en : Nat → List Value} {yr : Nat → Int} (E : EnvY g lb sf sb base blk n c qo en yr) (x : Nat → Nat) (a b m : Nat) (w : World) (h : StY base blk n c qo en w x) (hab : a + m ≤ b) (hbn : b + m ≤ n) :
    Calls Try.prog 51 #[.agg #[.func (.func g) #[] lb, .func (.func sf) #[] sb], .int .i64 (a : Int), .int .i64 (b : Int), .int .i64 (m : Int)] w (DoneY base blk n c qo en w (fun y => y = swRY x a b m)) := by
  have hn := E.n1
  have hblk := h.blt.2
  have HS := Lib.hid (h.below ((Below.refl w.heap.size w).alloc (Nat.le_refl _) (.cells #[.func (.func g) #[] lb, .func (.func sf) #[] sb] 60)))
  have HSw := Lib.hid E.swap
  have H5 := Lib.hid E.h5
  clear h E
  go_enter Try.func51, Try.ntmps51
  go_wp2_with fail
  obtain ⟨w1, hw1⟩ : ∃ z, w.alloc (.cells #[.func (.func g) #[] lb, .func (.func sf) #[] sb] 60) = z := ⟨_, rfl⟩
  have HW := Lib.hid hw1
  rw [hw1] at HS
  (try rw [hw1])
  clear hw1
  go_loopw [8] (fun i wr => ∃ k : Nat, k ≤ m ∧ i = .int .i64 (k : Int) ∧ StY base blk n c qo en wr (swRY x a b k) ∧ w1.grownBy wr (some blk)) (fun i _ => m - (intOf i).toNat)
  case atStart => exact ⟨0, Nat.zero_le _, rfl, by rw [swRY_zero]; exact HS.out, grown_of_below (Below.refl _ _) _⟩
  case round =>
    obtain ⟨k, hk, rfl, hs, hg⟩ := hrel
    have Hs := Lib.hid hs
    have Hg := Lib.hid hg
    obtain ⟨c0, c1⟩ := boxY (w := w) (by rw [HW.out]; exact hg) hblk
    clear hs hg
    by_cases hlt : k < m
    · have hlt' : (k : Int) < (m : Int) := by omega
      have hrun := HSw.out wr _ (a + k) (b + k) Hs.out (by omega) (by omega) (by omega)
      obtain ⟨hs2, hg2⟩ := Hs.out.swap H5.out (i := a + k) (k := b + k) (by omega) (by omega)
      rw [swRY_step x (by omega)] at hs2
      have Hs2 := Lib.hid hs2
      have Hg2 := Lib.hid (grown_trans Hg.out hg2)
      rw [show ((a + k : Nat) : Int) = (a : Int) + (k : Int) by omega, show ((b + k : Nat) : Int) = (b : Int) + (k : Int) by omega] at hrun
      generalize swWY wr blk en (swRY x a b k) (a + k) (b + k) = wn at *
      clear hs2 hg2
      go_wp2_with fail
      go_roundw
      case rel => exact ⟨k + 1, by omega, by go_num, Hs2.out, Hg2.out⟩
      case measure => first | (simp [intOf]; done) | (simp [intOf]; omega)
    · obtain rfl : k = m := by omega
      have hlt' : ¬ ((k : Int) < (k : Int)) := by omega
      go_wp2_with fail
      go_end0
      exact ⟨rfl, _, rfl, Hs.out, grown_boxY (by rw [HW.out]; exact Hg.out)⟩
end Go.Proofs.Ytmlnaedeghpbbaa
/- A stable sort by years, part 5: the library's rotation and insertion sort. -/
namespace Go.Proofs.Ytmlnaedeghpbbaa
open Go.RowKit Go.Joins

set_option maxRecDepth 100000 in
set_option maxHeartbeats 3200000 in
theorem rotate_any {g : Nat} {lb : Array Value} {sf : Nat} {sb : Array Value} {base blk n c qo : Nat} {en : Nat → List Value} {yr : Nat → Int} (E : EnvY g lb sf sb base blk n c qo en yr) (x : Nat → Nat) (a m b : Nat) (w : World) (h : StY base blk n c qo en w x) (ham : a < m) (hmb : m < b) (hbn : b ≤ n) :
    Calls Try.prog 50 #[.agg #[.func (.func g) #[] lb, .func (.func sf) #[] sb], .int .i64 (a : Int), .int .i64 (m : Int), .int .i64 (b : Int)] w (DoneY base blk n c qo en w (fun y => y = rotY x a m b)) := by
  have hn := E.n1
  have hblk := h.blt.2
  have HS := Lib.hid (h.below ((Below.refl w.heap.size w).alloc (Nat.le_refl _) (.cells #[.func (.func g) #[] lb, .func (.func sf) #[] sb] 60)))
  have HR := Lib.hid (fun x a b m w h h1 h2 => swapRange_any E x a b m w h h1 h2)
  unfold DoneY at HR
  clear h E
  go_enter Try.func50, Try.ntmps50
  go_wp2_with fail
  obtain ⟨w1, hw1⟩ : ∃ z, w.alloc (.cells #[.func (.func g) #[] lb, .func (.func sf) #[] sb] 60) = z := ⟨_, rfl⟩
  have HW := Lib.hid hw1
  rw [hw1] at HS
  (try rw [hw1])
  clear hw1
  go_loopw [8, 9] (fun vi vj wr => ∃ (i j : Nat) (cur : Nat → Nat), 0 < i ∧ 0 < j ∧ a + i ≤ m ∧ m + j ≤ b ∧ vi = .int .i64 (i : Int) ∧ vj = .int .i64 (j : Int) ∧ StY base blk n c qo en wr cur ∧ w1.grownBy wr (some blk) ∧ rotY cur (m - i) m (m + j) = rotY x a m b) (fun vi vj _ => (intOf vi).toNat + (intOf vj).toNat)
  case atStart => exact ⟨m - a, b - m, x, by omega, by omega, by omega, by omega, by congr 1; omega, by congr 1; omega, HS.out, grown_of_below (Below.refl _ _) _, by rw [show m - (m - a) = a by omega, show m + (b - m) = b by omega]⟩
  case round =>
    obtain ⟨i, j, cur, hi, hj, hia, hjb, rfl, rfl, hs, hg, hrot⟩ := hrel
    have Hs := Lib.hid hs
    have Hg := Lib.hid hg
    have Hrot := Lib.hid hrot
    obtain ⟨c0, c1⟩ := boxY (w := w) (by rw [HW.out]; exact hg) hblk
    clear hs hg hrot
    by_cases hij : i = j
    · subst hij
      have Hc := Lib.hid (HR.out cur (m - i) m i wr Hs.out (by omega) (by omega))
      rw [show ((m - i : Nat) : Int) = (m : Int) - (i : Int) by omega] at Hc
      go_wp2_with fail
      refine Hc.out.mono ?_; rintro e w2 ⟨rfl, y, rfl, hs2, hg2⟩
      have Hs2 := Lib.hid hs2
      have Hg2 := Lib.hid hg2
      clear hs2 hg2
      go_wp2_with fail
      go_end0
      exact ⟨rfl, _, by rw [rotY_end cur (by omega)]; exact Hrot.out, Hs2.out, grown_boxY (by rw [HW.out]; exact grown_trans Hg.out Hg2.out)⟩
    · have hij' : ¬ (i : Int) = (j : Int) := by omega
      by_cases hlt : j < i
      · have hlt' : (j : Int) < (i : Int) := by omega
        have Hc := Lib.hid (HR.out cur (m - i) m j wr Hs.out (by omega) (by omega))
        rw [show ((m - i : Nat) : Int) = (m : Int) - (i : Int) by omega] at Hc
        go_wp2_with fail
        refine Hc.out.mono ?_; rintro e w2 ⟨rfl, y, rfl, hs2, hg2⟩
        have Hs2 := Lib.hid hs2
        have Hg2 := Lib.hid (grown_trans Hg.out hg2)
        clear hs2 hg2
        go_wp2_with fail
        go_roundw
        case rel => exact ⟨i - j, j, _, by omega, hj, by omega, hjb, by congr 1; omega, rfl, Hs2.out, Hg2.out, by rw [rotY_gt cur (by omega) hlt]; exact Hrot.out⟩
        case measure => first | (simp [intOf]; done) | (simp [intOf]; omega)
      · have hlt' : ¬ (j : Int) < (i : Int) := by omega
        have Hc := Lib.hid (HR.out cur (m - i) (m + j - i) i wr Hs.out (by omega) (by omega))
        rw [show ((m - i : Nat) : Int) = (m : Int) - (i : Int) by omega, show ((m + j - i : Nat) : Int) = (m : Int) + (j : Int) - (i : Int) by omega] at Hc
        go_wp2_with fail
        refine Hc.out.mono ?_; rintro e w2 ⟨rfl, y, rfl, hs2, hg2⟩
        have Hs2 := Lib.hid hs2
        have Hg2 := Lib.hid (grown_trans Hg.out hg2)
        clear hs2 hg2
        go_wp2_with fail
        go_roundw
        case rel => exact ⟨i, j - i, _, hi, by omega, hia, by omega, rfl, by congr 1; omega, Hs2.out, Hg2.out, by rw [rotY_lt cur (by omega) (by omega)]; exact Hrot.out⟩
        case measure => first | (simp [intOf]; done) | (simp [intOf]; omega)
set_option maxRecDepth 100000 in
set_option maxHeartbeats 3200000 in
theorem insSort_any {g : Nat} {lb : Array Value} {sf : Nat} {sb : Array Value} {base blk n c qo : Nat} {en : Nat → List Value} {yr : Nat → Int} (E : EnvY g lb sf sb base blk n c qo en yr) (x : Nat → Nat) (a b : Nat) (w : World) (h : StY base blk n c qo en w x) (hab : a ≤ b) (hbn : b ≤ n) (hx : ∀ k l, a ≤ k → k < l → l < b → x k < x l) :
    Calls Try.prog 45 #[.agg #[.func (.func g) #[] lb, .func (.func sf) #[] sb], .int .i64 (a : Int), .int .i64 (b : Int)] w (DoneY base blk n c qo en w (fun y => PrmY x y a b ∧ SrtY yr y a b)) := by
  have hn := E.n1
  have hblk := h.blt.2
  have HS := Lib.hid (h.below ((Below.refl w.heap.size w).alloc (Nat.le_refl _) (.cells #[.func (.func g) #[] lb, .func (.func sf) #[] sb] 60)))
  have HSw := Lib.hid E.swap
  have HLe := Lib.hid E.less
  have heg := E.enter
  have H5 := Lib.hid E.h5
  have HX := Lib.hid hx
  clear h E hx
  go_enter Try.func45, Try.ntmps45
  go_wp2_with fail
  obtain ⟨w1, hw1⟩ : ∃ z, w.alloc (.cells #[.func (.func g) #[] lb, .func (.func sf) #[] sb] 60) = z := ⟨_, rfl⟩
  have HW := Lib.hid hw1
  rw [hw1] at HS
  (try rw [hw1])
  clear hw1
  go_loopw [6] (fun vi wr => ∃ (i : Nat) (cur : Nat → Nat), a < i ∧ i ≤ b + 1 ∧ vi = .int .i64 (i : Int) ∧ StY base blk n c qo en wr cur ∧ w1.grownBy wr (some blk) ∧ SrtY yr cur a i ∧ (i ≤ b → PrmY x cur a i) ∧ (b < i → cur = x)) (fun vi _ => b + 1 - (intOf vi).toNat)
  case atStart => exact ⟨a + 1, x, by omega, by omega, by go_num, HS.out, grown_of_below (Below.refl _ _) _, fun p q _ _ _ => by omega, fun _ => PrmY.refl _ _ _, fun _ => rfl⟩
  case round =>
    obtain ⟨i, cur, hai, hib, rfl, hs, hg, hsrt, hprm, heq⟩ := hrel
    have Hs := Lib.hid hs
    have Hg := Lib.hid hg
    have Hsrt := Lib.hid hsrt
    clear hs hg hsrt
    by_cases hlt : i < b
    · have hlt' : (i : Int) < (b : Int) := by omega
      have HI0 := Lib.hid (InsY.start (hprm (by omega)) Hsrt.out (by omega))
      clear hprm heq
      obtain ⟨wo, rfl⟩ : ∃ z, z = wr := ⟨_, rfl⟩
      go_wp2_with fail
      go_loopw [7] (fun vj wz => ∃ (j : Nat) (cu : Nat → Nat), a ≤ j ∧ j ≤ i ∧ vj = .int .i64 (j : Int) ∧ StY base blk n c qo en wz cu ∧ w1.grownBy wz (some blk) ∧ InsY yr x cu a i j) (fun vj _ => (intOf vj).toNat)
      case atStart => exact ⟨i, cur, by omega, Nat.le_refl _, rfl, Hs.out, Hg.out, HI0.out⟩
      case round =>
        clear HI0 Hs Hg
        obtain ⟨j, cu, haj, hji, rfl, hs, hg, hin⟩ := hrel
        have Hs := Lib.hid hs
        have Hg := Lib.hid hg
        have Hin := Lib.hid hin
        obtain ⟨c0, c1⟩ := boxY (w := w) (by rw [HW.out]; exact hg) hblk
        clear hs hg hin
        by_cases hja : a < j
        · have hja' : (a : Int) < (j : Int) := by omega
          have Hl := Lib.hid (HLe.out wr cu j (j - 1) Hs.out (by omega) (by omega))
          rw [show ((j - 1 : Nat) : Int) = (j : Int) - 1 by omega] at Hl
          by_cases hle : yr (cu j) < yr (cu (j - 1))
          · rw [decide_eq_true hle] at Hl
            have Hst := Lib.hid (Hin.out.step hja hji hle)
            have Hrun := Lib.hid (fun d => HSw.out (wr.drewN d) cu j (j - 1) (Hs.out.drewN d) (by omega) (by omega) (by omega))
            rw [show ((j - 1 : Nat) : Int) = (j : Int) - 1 by omega] at Hrun
            have Hsw := Lib.hid (fun d => (Hs.out.drewN d).swap H5.out (i := j) (k := j - 1) (by omega) (by omega))
            have Hgd := Lib.hid (fun d => grown_drewN Hg.out d)
            clear hle
            go_wp2_with fail
            refine Hl.out.mono ?_; rintro e w2 ⟨rfl, d, rfl⟩
            have hrun := Hrun.out d
            obtain ⟨hs2, hg2⟩ := Hsw.out d
            have Hs2 := Lib.hid hs2
            have Hg2 := Lib.hid (grown_trans (Hgd.out d) hg2)
            generalize swWY (wr.drewN d) blk en cu j (j - 1) = wn at *
            have c1d : (wr.drewN d).cell? ⟨w.heap.size, 1, none⟩ = some (.func (.func sf) #[] sb) := c1
            clear hs2 hg2 Hl Hrun Hsw Hgd
            generalize wr.drewN d = wd at *
            go_wp2_with fail
            go_roundw
            case rel => exact ⟨j - 1, _, by omega, by omega, by congr 1; omega, Hs2.out, Hg2.out, Hst.out⟩
            case measure => first | (simp [intOf]; done) | (simp [intOf]; omega)
          · rw [decide_eq_false hle] at Hl
            have Hd := Lib.hid (Hin.out.done hji (fun k h1 h2 => HX.out k i h1 h2 hlt) (.inr hle))
            clear hle
            go_wp2_with fail
            refine Hl.out.mono ?_; rintro e w2 ⟨rfl, d, rfl⟩
            have Hs2 := Lib.hid (Hs.out.drewN d)
            have Hg2 := Lib.hid (grown_drewN Hg.out d)
            clear Hl
            go_wp2_with fail
            go_roundw
            case rel => exact ⟨i + 1, cu, by omega, by omega, by go_num, Hs2.out, Hg2.out, Hd.out, fun _ => Hin.out.prm, fun h => absurd h (by omega)⟩
            case measure => first | (simp [intOf]; done) | (simp [intOf]; omega)
        · have hja' : ¬ (a : Int) < (j : Int) := by omega
          obtain rfl : j = a := by omega
          have Hd := Lib.hid (Hin.out.done hji (fun k h1 h2 => HX.out k i h1 h2 hlt) (.inl rfl))
          go_wp2_with fail
          go_roundw
          case rel => exact ⟨i + 1, cu, by omega, by omega, by go_num, Hs.out, Hg.out, Hd.out, fun _ => Hin.out.prm, fun h => absurd h (by omega)⟩
          case measure => first | (simp [intOf]; done) | (simp [intOf]; omega)
    · have hlt' : ¬ (i : Int) < (b : Int) := by omega
      have Hf := Lib.hid (show PrmY x cur a b ∧ SrtY yr cur a b from by
        by_cases e : i = b
        · subst e; exact ⟨hprm (Nat.le_refl _), Hsrt.out⟩
        · rw [heq (by omega)]
          exact ⟨PrmY.refl _ _ _, fun p q h1 h2 h3 => by have := Hsrt.out p q h1 h2 (by omega); rwa [heq (by omega)] at this⟩)
      clear hprm heq
      go_wp2_with fail
      go_end0
      exact ⟨rfl, _, Hf.out, Hs.out, grown_boxY (by rw [HW.out]; exact Hg.out)⟩
end Go.Proofs.Ytmlnaedeghpbbaa
/- A stable sort by years, part 6: the library's symmetric merge (gen_by6.py). -/
namespace Go.Proofs.Ytmlnaedeghpbbaa
open Go.RowKit Go.Joins

theorem rotY_id (x : Nat → Nat) {st m en : Nat} (h : st = m ∨ en = m) : rotY x st m en = x := by
  funext k
  unfold rotY
  repeat' split
  all_goals first | rfl | (congr 1; omega) | (exfalso; omega)
/-- a search by halves -/
structure BinY (lo hi : Nat) (L R : Nat → Prop) (i j : Nat) : Prop where
  li : lo ≤ i
  ij : i ≤ j
  jh : j ≤ hi
  l : i = lo ∨ L (i - 1)
  r : j = hi ∨ R j
theorem BinY.start {lo hi : Nat} {L R : Nat → Prop} (h : lo ≤ hi) : BinY lo hi L R lo hi := ⟨Nat.le_refl _, h, Nat.le_refl _, .inl rfl, .inl rfl⟩
theorem BinY.up {lo hi i j m : Nat} {L R : Nat → Prop} (h : BinY lo hi L R i j) (h1 : i ≤ m) (h2 : m < j) (hL : L m) : BinY lo hi L R (m + 1) j :=
  ⟨Nat.le_trans h.li (Nat.le_succ_of_le h1), h2, h.jh, .inr (by rw [Nat.add_sub_cancel]; exact hL), h.r⟩
theorem BinY.down {lo hi i j m : Nat} {L R : Nat → Prop} (h : BinY lo hi L R i j) (h1 : i ≤ m) (h2 : m < j) (hR : R m) : BinY lo hi L R i m :=
  ⟨h.li, h1, Nat.le_trans (Nat.le_of_lt h2) h.jh, h.l, .inr hR⟩
set_option maxRecDepth 100000 in
set_option maxHeartbeats 6400000 in
theorem symOneL_any {g : Nat} {lb : Array Value} {sf : Nat} {sb : Array Value} {base blk n c qo : Nat} {en : Nat → List Value} {yr : Nat → Int} (E : EnvY g lb sf sb base blk n c qo en yr) (x : Nat → Nat) (a b : Nat) (w : World) (h : StY base blk n c qo en w x) (hm : MrgY yr x a (a + 1) b) (hab : a + 1 < b) (hbn : b ≤ n) :
    Calls Try.prog 46 #[.agg #[.func (.func g) #[] lb, .func (.func sf) #[] sb], .int .i64 (a : Int), .int .i64 ((a : Int) + 1), .int .i64 (b : Int)] w (DoneY base blk n c qo en w (fun y => PrmY x y a b ∧ SrtY yr y a b)) := by
  have hn := E.n1
  have hblk := h.blt.2
  have HS := Lib.hid (h.below ((Below.refl w.heap.size w).alloc (Nat.le_refl _) (.cells #[.func (.func g) #[] lb, .func (.func sf) #[] sb] 60)))
  have HSw := Lib.hid E.swap
  have HLe := Lib.hid E.less
  have heg := E.enter
  have H5 := Lib.hid E.h5
  have HM := Lib.hid hm
  clear h E hm
  go_enter Try.func46, Try.ntmps46
  go_wp2_with fail
  obtain ⟨w1, hw1⟩ : ∃ z, w.alloc (.cells #[.func (.func g) #[] lb, .func (.func sf) #[] sb] 60) = z := ⟨_, rfl⟩
  have HW := Lib.hid hw1
  rw [hw1] at HS
  (try rw [hw1])
  clear hw1
  go_loopw [8, 9] (fun vi vj wr => ∃ i j : Nat, BinY (a + 1) b (fun q => yr (x q) < yr (x a)) (fun q => ¬ yr (x q) < yr (x a)) i j ∧ vi = .int .i64 (i : Int) ∧ vj = .int .i64 (j : Int) ∧ StY base blk n c qo en wr x ∧ w1.grownBy wr (some blk)) (fun vi vj _ => (intOf vj).toNat - (intOf vi).toNat)
  case atStart => exact ⟨a + 1, b, BinY.start (by omega), by go_num, rfl, HS.out, grown_of_below (Below.refl _ _) _⟩
  case round =>
    clear HS
    obtain ⟨i, j, hb, rfl, rfl, hs, hg⟩ := hrel
    have Hb := Lib.hid hb
    have hi := hb.li
    have hij := hb.ij
    have hj := hb.jh
    clear hb
    have Hs := Lib.hid hs
    have Hg := Lib.hid hg
    obtain ⟨c0, c1⟩ := boxY (w := w) (by rw [HW.out]; exact hg) hblk
    clear hs hg
    by_cases hlt : i < j
    · have hlt' : (i : Int) < (j : Int) := by omega
      obtain ⟨h, hh⟩ : ∃ z, (i + j) / 2 = z := ⟨_, rfl⟩
      have hshh : ((((i : Int) + (j : Int)) >>> (1 : Nat)) : Int) = (h : Int) := by rw [Int.shiftRight_eq_div_pow]; omega
      have hsvh : (((i : Int) + (j : Int)) / 2 : Int) = (h : Int) := by omega
      have Hl := Lib.hid (HLe.out wr x h a Hs.out (by omega) (by omega))
      by_cases hle : yr (x h) < yr (x a)
      · rw [decide_eq_true hle] at Hl
        have Hle := Lib.hid hle
        clear hle
        go_wp2_with fail
        refine Hl.out.mono ?_; rintro e w2 ⟨rfl, d, rfl⟩
        have Hs2 := Lib.hid (Hs.out.drewN d)
        have Hg2 := Lib.hid (grown_drewN Hg.out d)
        clear Hl
        go_wp2_with fail
        go_roundw
        case rel => exact ⟨h + 1, j, Hb.out.up (by omega) (by omega) Hle.out, by first | go_num | omega, by first | rfl | omega, Hs2.out, Hg2.out⟩
        case measure => first | (simp [intOf]; done) | (simp [intOf]; omega)
      · rw [decide_eq_false hle] at Hl
        have Hle := Lib.hid hle
        clear hle
        go_wp2_with fail
        refine Hl.out.mono ?_; rintro e w2 ⟨rfl, d, rfl⟩
        have Hs2 := Lib.hid (Hs.out.drewN d)
        have Hg2 := Lib.hid (grown_drewN Hg.out d)
        clear Hl
        go_wp2_with fail
        go_roundw
        case rel => exact ⟨i, h, Hb.out.down (by omega) (by omega) Hle.out, by first | rfl | omega, by first | rfl | omega, Hs2.out, Hg2.out⟩
        case measure => first | (simp [intOf]; done) | (simp [intOf]; omega)
    · obtain rfl : i = j := by omega
      have hlt' : ¬ ((i : Int) < (i : Int)) := by omega
      obtain ⟨wo, rfl⟩ : ∃ z, z = wr := ⟨_, rfl⟩
      go_wp2_with fail
      go_loopw [11] (fun vk wr => ∃ k : Nat, a ≤ k ∧ k ≤ i - 1 ∧ vk = .int .i64 (k : Int) ∧ StY base blk n c qo en wr (mvUY x a k) ∧ w1.grownBy wr (some blk)) (fun vk _ => i - (intOf vk).toNat)
      case atStart => exact ⟨a, Nat.le_refl _, by omega, rfl, by rw [mvUY_zero]; exact Hs.out, Hg.out⟩
      case round =>
        clear Hs Hg
        obtain ⟨k, hk, hki, rfl, hs, hg⟩ := hrel
        have Hs := Lib.hid hs
        have Hg := Lib.hid hg
        obtain ⟨c0, c1⟩ := boxY (w := w) (by rw [HW.out]; exact hg) hblk
        clear hs hg
        by_cases hkl : k < i - 1
        · have hkl' : (k : Int) < (i : Int) - 1 := by omega
          have hrun := HSw.out wr _ k (k + 1) Hs.out (by omega) (by omega) (by omega)
          obtain ⟨hs2, hg2⟩ := Hs.out.swap H5.out (i := k) (k := k + 1) (by omega) (by omega)
          rw [mvUY_step x hk] at hs2
          have Hs2 := Lib.hid hs2
          have Hg2 := Lib.hid (grown_trans Hg.out hg2)
          rw [show ((k + 1 : Nat) : Int) = (k : Int) + 1 by omega] at hrun
          generalize swWY wr blk en (mvUY x a k) k (k + 1) = wn at *
          clear hs2 hg2
          go_wp2_with fail
          go_roundw
          case rel => exact ⟨k + 1, by omega, by omega, by go_num, Hs2.out, Hg2.out⟩
          case measure => first | (simp [intOf]; done) | (simp [intOf]; omega)
        · obtain rfl : k = i - 1 := by omega
          have hkl' : ¬ (((i - 1 : Nat) : Int) < (i : Int) - 1) := by omega
          go_wp2_with fail
          go_end0
          exact ⟨rfl, _, ⟨mvUY_prm x hk (by omega), mrg_one_l HM.out hi hj Hb.out.l (Hb.out.r.imp id (fun h => Int.not_lt.2 h))⟩, Hs.out, grown_boxY (by rw [HW.out]; exact Hg.out)⟩
set_option maxRecDepth 100000 in
set_option maxHeartbeats 6400000 in
theorem symOneR_any {g : Nat} {lb : Array Value} {sf : Nat} {sb : Array Value} {base blk n c qo : Nat} {en : Nat → List Value} {yr : Nat → Int} (E : EnvY g lb sf sb base blk n c qo en yr) (x : Nat → Nat) (a m : Nat) (w : World) (h : StY base blk n c qo en w x) (hm : MrgY yr x a m (m + 1)) (hab : a + 1 < m) (hbn : m + 1 ≤ n) :
    Calls Try.prog 46 #[.agg #[.func (.func g) #[] lb, .func (.func sf) #[] sb], .int .i64 (a : Int), .int .i64 (m : Int), .int .i64 ((m : Int) + 1)] w (DoneY base blk n c qo en w (fun y => PrmY x y a (m + 1) ∧ SrtY yr y a (m + 1))) := by
  have hn := E.n1
  have hblk := h.blt.2
  have HS := Lib.hid (h.below ((Below.refl w.heap.size w).alloc (Nat.le_refl _) (.cells #[.func (.func g) #[] lb, .func (.func sf) #[] sb] 60)))
  have HSw := Lib.hid E.swap
  have HLe := Lib.hid E.less
  have heg := E.enter
  have H5 := Lib.hid E.h5
  have HM := Lib.hid hm
  clear h E hm
  have hma : ¬ ((m : Int) - (a : Int) = 1) := by omega
  go_enter Try.func46, Try.ntmps46
  go_wp2_with fail
  obtain ⟨w1, hw1⟩ : ∃ z, w.alloc (.cells #[.func (.func g) #[] lb, .func (.func sf) #[] sb] 60) = z := ⟨_, rfl⟩
  have HW := Lib.hid hw1
  rw [hw1] at HS
  (try rw [hw1])
  clear hw1
  go_loopw [12, 13] (fun vi vj wr => ∃ i j : Nat, BinY a m (fun q => ¬ yr (x m) < yr (x q)) (fun q => yr (x m) < yr (x q)) i j ∧ vi = .int .i64 (i : Int) ∧ vj = .int .i64 (j : Int) ∧ StY base blk n c qo en wr x ∧ w1.grownBy wr (some blk)) (fun vi vj _ => (intOf vj).toNat - (intOf vi).toNat)
  case atStart => exact ⟨a, m, BinY.start (by omega), rfl, rfl, HS.out, grown_of_below (Below.refl _ _) _⟩
  case round =>
    clear HS
    obtain ⟨i, j, hb, rfl, rfl, hs, hg⟩ := hrel
    have Hb := Lib.hid hb
    have hi := hb.li
    have hij := hb.ij
    have hj := hb.jh
    clear hb
    have Hs := Lib.hid hs
    have Hg := Lib.hid hg
    obtain ⟨c0, c1⟩ := boxY (w := w) (by rw [HW.out]; exact hg) hblk
    clear hs hg
    by_cases hlt : i < j
    · have hlt' : (i : Int) < (j : Int) := by omega
      obtain ⟨h, hh⟩ : ∃ z, (i + j) / 2 = z := ⟨_, rfl⟩
      have hshh : ((((i : Int) + (j : Int)) >>> (1 : Nat)) : Int) = (h : Int) := by rw [Int.shiftRight_eq_div_pow]; omega
      have hsvh : (((i : Int) + (j : Int)) / 2 : Int) = (h : Int) := by omega
      have Hl := Lib.hid (HLe.out wr x m h Hs.out (by omega) (by omega))
      by_cases hle : yr (x m) < yr (x h)
      · rw [decide_eq_true hle] at Hl
        have Hle := Lib.hid hle
        clear hle
        go_wp2_with fail
        refine Hl.out.mono ?_; rintro e w2 ⟨rfl, d, rfl⟩
        have Hs2 := Lib.hid (Hs.out.drewN d)
        have Hg2 := Lib.hid (grown_drewN Hg.out d)
        clear Hl
        go_wp2_with fail
        go_roundw
        case rel => exact ⟨i, h, Hb.out.down (by omega) (by omega) Hle.out, by first | rfl | omega, by first | rfl | omega, Hs2.out, Hg2.out⟩
        case measure => first | (simp [intOf]; done) | (simp [intOf]; omega)
      · rw [decide_eq_false hle] at Hl
        have Hle := Lib.hid hle
        clear hle
        go_wp2_with fail
        refine Hl.out.mono ?_; rintro e w2 ⟨rfl, d, rfl⟩
        have Hs2 := Lib.hid (Hs.out.drewN d)
        have Hg2 := Lib.hid (grown_drewN Hg.out d)
        clear Hl
        go_wp2_with fail
        go_roundw
        case rel => exact ⟨h + 1, j, Hb.out.up (by omega) (by omega) Hle.out, by first | go_num | omega, by first | rfl | omega, Hs2.out, Hg2.out⟩
        case measure => first | (simp [intOf]; done) | (simp [intOf]; omega)
    · obtain rfl : i = j := by omega
      have hlt' : ¬ ((i : Int) < (i : Int)) := by omega
      obtain ⟨wo, rfl⟩ : ∃ z, z = wr := ⟨_, rfl⟩
      go_wp2_with fail
      go_loopw [15] (fun vk wr => ∃ k : Nat, i ≤ k ∧ k ≤ m ∧ vk = .int .i64 (k : Int) ∧ StY base blk n c qo en wr (mvDY x m k) ∧ w1.grownBy wr (some blk)) (fun vk _ => (intOf vk).toNat)
      case atStart => exact ⟨m, hj, Nat.le_refl _, rfl, by rw [mvDY_zero]; exact Hs.out, Hg.out⟩
      case round =>
        clear Hs Hg
        obtain ⟨k, hik, hkm, rfl, hs, hg⟩ := hrel
        have Hs := Lib.hid hs
        have Hg := Lib.hid hg
        obtain ⟨c0, c1⟩ := boxY (w := w) (by rw [HW.out]; exact hg) hblk
        clear hs hg
        by_cases hkl : i < k
        · have hkl' : (i : Int) < (k : Int) := by omega
          obtain ⟨q, rfl⟩ : ∃ q, k = q + 1 := ⟨k - 1, by omega⟩
          have hrun := HSw.out wr _ (q + 1) q Hs.out (by omega) (by omega) (by omega)
          obtain ⟨hs2, hg2⟩ := Hs.out.swap H5.out (i := q + 1) (k := q) (by omega) (by omega)
          rw [mvDY_step x hkm] at hs2
          have Hs2 := Lib.hid hs2
          have Hg2 := Lib.hid (grown_trans Hg.out hg2)
          generalize swWY wr blk en (mvDY x m (q + 1)) (q + 1) q = wn at *
          clear hs2 hg2
          obtain ⟨k, hk⟩ : ∃ k, q + 1 = k := ⟨_, rfl⟩
          rw [show (q : Int) = (k : Int) - 1 by omega, hk] at hrun
          rw [hk] at hkl' hkm ⊢
          have Hk := Lib.hid hk
          clear hk
          go_wp2_with fail
          go_roundw
          case rel => have hk0 := Hk.out; exact ⟨q, by omega, by omega, by congr 1; omega, Hs2.out, Hg2.out⟩
          case measure => have := Hk.out; first | (simp [intOf]; done) | (simp [intOf]; omega)
        · obtain rfl : k = i := by omega
          have hkl' : ¬ ((k : Int) < (k : Int)) := by omega
          go_wp2_with fail
          go_end0
          exact ⟨rfl, _, ⟨mvDY_prm x hi hj (by omega), mrg_one_r HM.out hi hj (Hb.out.l.imp id (fun h => Int.not_lt.2 h)) Hb.out.r⟩, Hs.out, grown_boxY (by rw [HW.out]; exact Hg.out)⟩
end Go.Proofs.Ytmlnaedeghpbbaa
