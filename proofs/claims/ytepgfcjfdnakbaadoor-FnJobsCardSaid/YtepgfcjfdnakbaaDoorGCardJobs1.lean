/- Merged texts: Lib, Lib2, Base, Df1, Ro1, Df2, Df3, Lib5, U1, Mp1, U2, Nm1, Nm2, Nm3, Strs, Args, ArgRows, En1, En2, En3, En4, Tr1, Fi1. -/
import Derived.WalkKit
import Derived.WalkSpells
import Derived.WalkLawsBesides
import Derived.Deep.QuietTactic
import Derived.BigQuiet
import Derived.StillTailTactics
import Derived.Laws.IdiomStrings
import Derived.Deep.RegionHeld3
import Derived.Deep.AppendLies
import Derived.Deep.DrawnRows
import Derived.Lib.Hide
import Derived.IntWalk
import Derived.KernelRfl
import Derived.Test.YtepgfcjfdnakbaaDoorRows
import Derived.Lib.SmallJoins
import Derived.Deep.RegionLaw
import Derived.Maps.OwnSet
import Derived.Maps.Views
import Derived.Maps.OwnOps
import Derived.StringKeys
import Derived.ProofKit
import Derived.OpenShut
import Derived.Deep.Slices
import Derived.SliceStrings
/- Laws of my own for walks: append of new elements to a row of the call's own; conversions of owned rows of bytes to strings. No program is named here but for the numbers of types. -/
namespace Go.Proofs.YtepgfcjfdnakbaaDoor
open Go.RowKit

theorem ret_int {k : IntKind} {a b : Int} (h : a = b) : Ending.returned (.int k a) = .returned (.int k b) := by rw [h]

section
variable {P : Program}

/-- the cells of a block that has just been made -/
theorem new_cells (w : World) (cs : Array Value) (e : TypeId) : ∀ j u, cs.toList[j]? = some u → (w.alloc (.cells cs e)).cell? ((⟨w.heap.size, 0, none⟩ : Addr).add j) = some u := by
  intro j u hu
  have hadd : (⟨w.heap.size, 0, none⟩ : Addr).add j = ⟨w.heap.size, j, none⟩ := by unfold Addr.add; split <;> simp_all
  rw [hadd, cell_of_row (w.alloc (.cells cs e)) w.heap.size j cs e (0, 0) (heap_alloc_new w _)]
  simpa using hu

theorem wpList_apd {w : World} {ops : Array Oper} {rest : List Oper} {o : Oper} {a : Act} {Q : Exit → Act → World → Prop} (t e : TypeId) (z : Value) (size bytes : Nat)
    (ht : P.underlying t = some (.slice e)) (hinfo : (P.info? e).map (fun i => (i.zero, i.size, i.bytes)) = some (some z, size, bytes)) (hzs : z.cells.size = size) (hsz : 0 < size)
    (s x : Operand) (hgd : o.guard = none) (ho : o.op = .call { callee := .builtin .append, args := #[s, x], argTypes := #[t, t] })
    (base : Nat) (v : Value) (n : Nat) (xs : List Value) (hs : a.eval s = v) (hown : w.ownsRow base e size v n xs)
    (cs : Array Value) (m c : Nat) (hx : a.eval x = .slice (some ⟨w.heap.size, 0, none⟩) m c) (hl : cs.toList.length = m * size) (h1 : ∀ u ∈ cs.toList, u.oneCell' = true)
    (h63 : n + m ≤ maxLen) (hbytes : (n + m) * bytes ≤ 140737488355328) (hbase : base ≤ w.heap.size)
    (h : ∀ v' w', w'.ownsRow base e size v' (n + m) (xs ++ cs.toList) → w.grownBy w' v.ownBlock → wpList P ops Q rest (a.put o.dst v') w') :
    wpList P ops Q (o :: rest) a (w.alloc (.cells cs e)) := by
  obtain ⟨i, hi, hz, h2, h3⟩ := info_parts hinfo
  refine wpList_append_own _ hgd s x t ho base e i z size bytes ht hi hz h2 h3 hzs hsz v n xs hs (hown.alloc _) ⟨w.heap.size, 0, none⟩ m c cs.toList hx hl (new_cells w cs e) h1 h63 hbytes (by simp; omega) ?_
  intro v' w' ho' hg' _
  refine h v' w' ho' ⟨hg'.os, hg'.tape, hg'.output, Nat.le_trans (by simp) hg'.size, fun k hk hne => ?_⟩
  rw [hg'.block k (by simp; omega) hne]
  exact Below.heap_alloc w _ k hk

theorem wp_apd {w : World} {o : Oper} {a : Act} {K : Act → World → Prop} {Q : Exit → Act → World → Prop} (t e : TypeId) (z : Value) (size bytes : Nat)
    (ht : P.underlying t = some (.slice e)) (hinfo : (P.info? e).map (fun i => (i.zero, i.size, i.bytes)) = some (some z, size, bytes)) (hzs : z.cells.size = size) (hsz : 0 < size)
    (s x : Operand) (ho : o.op = .call { callee := .builtin .append, args := #[s, x], argTypes := #[t, t] })
    (base : Nat) (v : Value) (n : Nat) (xs : List Value) (hs : a.eval s = v) (hown : w.ownsRow base e size v n xs)
    (cs : Array Value) (m c : Nat) (hx : a.eval x = .slice (some ⟨w.heap.size, 0, none⟩) m c) (hl : cs.toList.length = m * size) (h1 : ∀ u ∈ cs.toList, u.oneCell' = true)
    (h63 : n + m ≤ maxLen) (hbytes : (n + m) * bytes ≤ 140737488355328) (hbase : base ≤ w.heap.size)
    (h : ∀ v' w', w'.ownsRow base e size v' (n + m) (xs ++ cs.toList) → w.grownBy w' v.ownBlock → K (a.put o.dst v') w') :
    o.wp P a (w.alloc (.cells cs e)) K Q := by
  obtain ⟨i, hi, hz, h2, h3⟩ := info_parts hinfo
  refine wp_append_own _ s x t ho base e i z size bytes ht hi hz h2 h3 hzs hsz v n xs hs (hown.alloc _) ⟨w.heap.size, 0, none⟩ m c cs.toList hx hl (new_cells w cs e) h1 h63 hbytes (by simp; omega) ?_
  intro v' w' ho' hg' _
  refine h v' w' ho' ⟨hg'.os, hg'.tape, hg'.output, Nat.le_trans (by simp) hg'.size, fun k hk hne => ?_⟩
  rw [hg'.block k (by simp; omega) hne]
  exact Below.heap_alloc w _ k hk

/-- the same at a step of a region that draws its order -/
theorem step_apd {w : World} {ops : Array Oper} {o : Oper} {a : Act} {K : Act → World → Prop} {Q : Exit → Act → World → Prop} {E : Prop} (t e : TypeId) (z : Value) (size bytes : Nat)
    (ht : P.underlying t = some (.slice e)) (hinfo : (P.info? e).map (fun i => (i.zero, i.size, i.bytes)) = some (some z, size, bytes)) (hzs : z.cells.size = size) (hsz : 0 < size)
    (s x : Operand) (hgd : o.guard = none) (ho : o.op = .call { callee := .builtin .append, args := #[s, x], argTypes := #[t, t] })
    (base : Nat) (v : Value) (n : Nat) (xs : List Value) (hs : a.eval s = v) (hown : w.ownsRow base e size v n xs)
    (cs : Array Value) (m c : Nat) (hx : a.eval x = .slice (some ⟨w.heap.size, 0, none⟩) m c) (hl : cs.toList.length = m * size) (h1 : ∀ u ∈ cs.toList, u.oneCell' = true)
    (h63 : n + m ≤ maxLen) (hbytes : (n + m) * bytes ≤ 140737488355328) (hbase : base ≤ w.heap.size)
    (h : ∀ v' w', w'.ownsRow base e size v' (n + m) (xs ++ cs.toList) → w.grownBy w' v.ownBlock → K (a.put o.dst v') w') :
    if Region.wanted o (yielded ops a.tmps) = true then Oper.wp P o a (w.alloc (.cells cs e)).drew K Q else E := by
  have hw : Region.wanted o (yielded ops a.tmps) = true := by simp [Region.wanted, hgd]
  rw [if_pos hw]
  refine wp_apd (w := w.drew) t e z size bytes ht hinfo hzs hsz s x ho base v n xs hs hown.drew cs m c hx hl h1 h63 hbytes hbase ?_
  intro v' w' h2 h3
  exact h v' w' h2 ⟨h3.os, h3.tape, h3.output, h3.size, h3.block⟩

/-- what an append to a row of the call's own does to what lay below -/
theorem below_apd {w w' : World} {B base : Nat} {W : World} {e : TypeId} {size n : Nat} {v : Value} {xs : List Value} (h : Below B W w) (hown : w.ownsRow base e size v n xs) (hg : w.grownBy w' v.ownBlock)
    (hB : B ≤ base) (hs : B ≤ w.heap.size) : Below B W w' :=
  h.grown hg hs (fun k hk => Nat.le_trans hB (hown.lt k hk).1)

theorem below_drewN {B : Nat} {a w : World} (h : Below B a w) (n : Nat) : Below B a (w.drewN n) := ⟨h.os, h.tape, h.output, h.size, h.block⟩
theorem below_undrew {B : Nat} {a w : World} (h : Below B a.drew w) : Below B a w := ⟨h.os, h.tape, h.output, h.size, h.block⟩
theorem below_undrewN {B n : Nat} {a w : World} (h : Below B (a.drewN n) w) : Below B a w := ⟨h.os, h.tape, h.output, h.size, h.block⟩
theorem grown_undrew {r : Option Nat} {a w : World} (h : a.drew.grownBy w r) : a.grownBy w r := ⟨h.os, h.tape, h.output, h.size, h.block⟩
theorem grown_of_below {a w : World} (h : Below a.heap.size a w) (r : Option Nat) : a.grownBy w r := ⟨h.os, h.tape, h.output, h.size, fun i hi _ => h.block i hi⟩
theorem grown_trans {a b c : World} {r : Option Nat} (h : a.grownBy b r) (k : b.grownBy c r) : a.grownBy c r :=
  ⟨k.os.trans h.os, k.tape.trans h.tape, k.output.trans h.output, Nat.le_trans h.size k.size, fun i hi hne => (k.block i (Nat.lt_of_lt_of_le hi h.size) hne).trans (h.block i hi hne)⟩
theorem own_below {w w' : World} {base : Nat} {e : TypeId} {size : Nat} {v : Value} {n : Nat} {xs : List Value} (h : w.ownsRow base e size v n xs) (hb : Below w.heap.size w w') : w'.ownsRow base e size v n xs :=
  h.kept (grown_of_below hb none) (by cases hv : v.ownBlock <;> simp)
theorem _root_.Go.World.ownsRow.drewN {w : World} {base : Nat} {e : TypeId} {size : Nat} {v : Value} {n : Nat} {xs : List Value} (h : w.ownsRow base e size v n xs) (k : Nat) : (w.drewN k).ownsRow base e size v n xs := h

theorem blk2 {w : World} {g : Nat} {a b : Value} {t : TypeId} (h : w.heap[g]? = some (.cells #[a, b] t (0, 0))) :
    w.cell? ⟨g, 0, none⟩ = some a ∧ w.cell? ⟨g, 1, none⟩ = some b ∧ w.frozen? ⟨g, 0, none⟩ = false ∧ w.frozen? ⟨g, 1, none⟩ = false :=
  ⟨by rw [cell_of_row w g 0 _ _ _ h]; rfl, by rw [cell_of_row w g 1 _ _ _ h]; rfl, frozen_of_row w g 0 _ _ h, frozen_of_row w g 1 _ _ h⟩
theorem grown_setCell {a w : World} {r : Option Nat} (h : a.grownBy w r) {p : Addr} (hp : some p.block = r ∨ a.heap.size ≤ p.block) (u : Value) : a.grownBy (w.setCell p u) r :=
  ⟨h.os, h.tape, h.output, by simpa [World.setCell] using h.size, fun i hi hne => (Below.heap_setCell w p u i (by
    rintro rfl
    rcases hp with hp | hp
    · exact hne hp
    · omega)).trans (h.block i hi hne)⟩
theorem grown_alloc {a w : World} {r : Option Nat} (h : a.grownBy w r) (o : Obj) : a.grownBy (w.alloc o) r :=
  ⟨h.os, h.tape, h.output, Nat.le_trans h.size (by simp), fun i hi hne => (Below.heap_alloc w o i (Nat.lt_of_lt_of_le hi h.size)).trans (h.block i hi hne)⟩
theorem grown_below {a b c : World} {r : Option Nat} (h : a.grownBy b r) (k : Below b.heap.size b c) : a.grownBy c r := grown_trans h (grown_of_below k r)
/-- a block that was made on the way: seen from before, it is new -/
theorem grown_from_alloc {a w : World} {o : Obj} {r : Option Nat} (h : (a.alloc o).grownBy w r) : a.grownBy w r :=
  ⟨h.os, h.tape, h.output, Nat.le_trans (by simp) h.size, fun i hi hne => (h.block i (by simp; omega) hne).trans (Below.heap_alloc a o i hi)⟩
theorem below_of_grown {a w : World} {r : Option Nat} {B : Nat} (h : a.grownBy w r) (hB : B ≤ a.heap.size) (hr : ∀ x, r = some x → B ≤ x) : Below B a w :=
  ⟨h.os, h.tape, h.output, h.size, fun i hi => h.block i (by omega) (fun e => by have := hr i e.symm; omega)⟩

/-- THE READING OF A SLICE: the value is a slice of n elements, whose cells (sz an element) lie below block B and hold cs. -/
def Rd (w : World) (B : Nat) (v : Value) (n sz : Nat) (cs : List Value) : Prop :=
  cs.length = n * sz ∧ ∃ A c, v = .slice A n c ∧ (0 < n * sz → ∃ b off, A = some ⟨b, off, none⟩ ∧ b < B ∧ ∀ i u, cs[i]? = some u → w.cell? ⟨b, off + i, none⟩ = some u)

theorem Rd.of_own {w : World} {base : Nat} {e : TypeId} {sz n : Nat} {v : Value} {cs : List Value} (h : w.ownsRow base e sz v n cs) : Rd w w.heap.size v n sz cs := by
  refine ⟨h.1, ?_⟩
  rcases h.2 with ⟨rfl, rfl⟩ | ⟨g, cap, cur, rfl, _, hg, _⟩
  · exact ⟨none, 0, rfl, fun h => by simp at h⟩
  · refine ⟨_, _, rfl, fun _ => ⟨g, 0, rfl, (Array.getElem?_eq_some_iff.1 hg).1, fun i u hu => ?_⟩⟩
    have := h.cells (g := g) rfl i u hu
    rw [show (⟨g, 0, none⟩ : Addr).add i = ⟨g, 0 + i, none⟩ by unfold Addr.add; split <;> simp_all] at this
    exact this
theorem Rd.keep {w w' : World} {B : Nat} {v : Value} {n sz : Nat} {cs : List Value} (h : Rd w B v n sz cs) (hk : ∀ p : Addr, p.block < B → w'.cell? p = w.cell? p) : Rd w' B v n sz cs := by
  obtain ⟨h1, A, c, hv, h2⟩ := h
  refine ⟨h1, A, c, hv, fun hn => ?_⟩
  obtain ⟨b, off, hA, hb, hc⟩ := h2 hn
  exact ⟨b, off, hA, hb, fun i u hu => (hk _ hb).trans (hc i u hu)⟩
theorem Rd.below {w w' : World} {B : Nat} {v : Value} {n sz : Nat} {cs : List Value} (h : Rd w B v n sz cs) (hb : Below B w w') : Rd w' B v n sz cs := h.keep fun _ hp => hb.cell hp
theorem Rd.more {w : World} {B B' : Nat} {v : Value} {n sz : Nat} {cs : List Value} (h : Rd w B v n sz cs) (hB : B ≤ B') : Rd w B' v n sz cs := by
  obtain ⟨h1, A, c, hv, h2⟩ := h
  refine ⟨h1, A, c, hv, fun hn => ?_⟩
  obtain ⟨b, off, hA, hb, hc⟩ := h2 hn
  exact ⟨b, off, hA, Nat.lt_of_lt_of_le hb hB, hc⟩
theorem Rd.drewN {w : World} {B : Nat} {v : Value} {n sz : Nat} {cs : List Value} (h : Rd w B v n sz cs) (k : Nat) : Rd (w.drewN k) B v n sz cs := h

theorem ba_app (a b : Array UInt8) : ((⟨a⟩ : ByteArray) ++ ⟨b⟩) = ⟨a ++ b⟩ := ByteArray.ext (by simp)
theorem ba_inj {a b : ByteArray} (h : a.toList = b.toList) : a = b := by
  rw [ByteArray.toList_eq, ByteArray.toList_eq] at h
  exact ByteArray.ext (by rw [← Array.toArray_toList (xs := a.data), h, Array.toArray_toList])

/-- a byte as a cell -/
def byV (c : UInt8) : Value := .int .u8 (c.toNat : Int)

theorem run_conv_own {w : World} (src dst e : TypeId) (hsrc : P.underlying src = some (.slice e)) (he : P.underlying e = some (.int .u8)) (hd : P.underlying dst = some .string)
    (base : Nat) (v : Value) (n : Nat) (l : List UInt8) (hown : w.ownsRow base e 1 v n (l.map byV)) : (convert src dst v).run P w = .ok (.string ⟨l.toArray⟩) w := by
  have hlen : l.length = n := by simpa using hown.1
  rcases hown.2 with ⟨rfl, h0⟩ | ⟨g, cap, cur, rfl, _, hg, _⟩
  · obtain rfl : l = [] := List.eq_nil_of_length_eq_zero (by omega)
    rw [run_convert_bytes_string w src dst e _ _ _ hsrc he hd]
    simp [Conv.bytesToString]; rfl
  · subst hlen
    refine run_convert_bytes_back w src dst e _ cap l hsrc he hd (fun j hj => ?_)
    have := hown.cells (g := g) rfl j (byV l[j]) (by simp [hj])
    exact this
theorem run_conv_one {w : World} (src dst e : TypeId) (hsrc : P.underlying src = some (.slice e)) (he : P.underlying e = some (.int .u8)) (hd : P.underlying dst = some .string) (c : UInt8) :
    (convert src dst (.slice (some ⟨w.heap.size, 0, none⟩) 1 1)).run P (w.alloc (.cells #[.int .u8 (c.toNat : Int)] e)) = .ok (.string ⟨#[c]⟩) (w.alloc (.cells #[.int .u8 (c.toNat : Int)] e)) :=
  run_convert_bytes_back _ src dst e _ 1 [c] hsrc he hd (fun j hj => by
    have : j = 0 := by simpa using hj
    subst this
    exact new_cells w #[.int .u8 (c.toNat : Int)] e 0 _ rfl)
end
end Go.Proofs.YtepgfcjfdnakbaaDoor
/- Append of a row that is read to a row of the call's own. No program is named here. -/
namespace Go.Proofs.YtepgfcjfdnakbaaDoor
open Go.RowKit

section
variable {P : Program}
theorem wpList_apr {w : World} {ops : Array Oper} {rest : List Oper} {o : Oper} {a : Act} {Q : Exit → Act → World → Prop} (t e : TypeId) (z : Value) (size bytes : Nat)
    (ht : P.underlying t = some (.slice e)) (hinfo : (P.info? e).map (fun i => (i.zero, i.size, i.bytes)) = some (some z, size, bytes)) (hzs : z.cells.size = size) (hsz : 0 < size)
    (s x : Operand) (hgd : o.guard = none) (ho : o.op = .call { callee := .builtin .append, args := #[s, x], argTypes := #[t, t] })
    (base : Nat) (v : Value) (n : Nat) (xs : List Value) (hs : a.eval s = v) (hown : w.ownsRow base e size v n xs)
    (b off m c : Nat) (cs : List Value) (hx : a.eval x = .slice (some ⟨b, off, none⟩) m c) (hl : cs.length = m * size) (hc : ∀ (i : Nat) (u : Value), cs[i]? = some u → w.cell? ⟨b, off + i, none⟩ = some u) (h1 : ∀ u ∈ cs, u.oneCell' = true)
    (h63 : n + m ≤ maxLen) (hbytes : (n + m) * bytes ≤ 140737488355328) (hbase : base ≤ w.heap.size)
    (h : ∀ v' w', w'.ownsRow base e size v' (n + m) (xs ++ cs) → w.grownBy w' v.ownBlock → wpList P ops Q rest (a.put o.dst v') w') :
    wpList P ops Q (o :: rest) a w := by
  obtain ⟨i, hi, hz, h2, h3⟩ := info_parts hinfo
  refine wpList_append_own _ hgd s x t ho base e i z size bytes ht hi hz h2 h3 hzs hsz v n xs hs hown ⟨b, off, none⟩ m c cs hx hl (fun j u hu => ?_) h1 h63 hbytes hbase ?_
  · have hadd : (⟨b, off, none⟩ : Addr).add j = ⟨b, off + j, none⟩ := by unfold Addr.add; split <;> simp_all
    rw [hadd]; exact hc j u hu
  · intro v' w' ho' hg' _
    exact h v' w' ho' hg'
end
end Go.Proofs.YtepgfcjfdnakbaaDoor
/- Contracts for the small helpers (l00In, between). -/
namespace Go.Proofs.YtepgfcjfdnakbaaDoor
open Go.RowKit

def inB (n low high : Int) : Bool := decide (low ≤ n) && decide (n ≤ high)

set_option maxHeartbeats 400000 in
theorem l00In_any (n low high : Int) (w : World) :
    Calls Tryd.prog 84 #[.int .i64 n, .int .i64 low, .int .i64 high] w fun e w' => e = .returned (.bool (inB n low high)) ∧ w = w' := by
  go_enter Tryd.func84, Tryd.ntmps84
  go_wp2
  all_goals (first | go_ret | skip)
  all_goals (refine ⟨?_, rfl⟩; simp_all [inB] <;> omega)

set_option maxHeartbeats 400000 in
theorem between_any (n low high : Int) (w : World) :
    Calls Tryd.prog 75 #[.int .i64 n, .int .i64 low, .int .i64 high] w fun e w' => e = .returned (.bool (inB n low high)) ∧ w = w' := by
  go_enter Tryd.func75, Tryd.ntmps75
  go_wp2
  all_goals (first | go_ret | skip)
  all_goals (refine ⟨?_, rfl⟩; simp_all [inB] <;> omega)

end Go.Proofs.YtepgfcjfdnakbaaDoor
/- Differences, part 1: rows of numbers as functions, lessBefore, copyNumbers. -/
namespace Go.Proofs.YtepgfcjfdnakbaaDoor
open Go.RowKit Go.Joins

theorem infoD : (Tryd.prog.info? 2).map (fun i => (i.zero, i.size, i.bytes)) = some (some (.int .i64 0), 1, 8) := by kernel_rfl
/-- the first n values of f -/
def tab (n : Nat) (f : Nat → Int) : List Value := (List.range n).map fun i => .int .i64 (f i)
theorem tab_len (n : Nat) (f : Nat → Int) : (tab n f).length = n := by simp [tab]
theorem tab_succ (n : Nat) (f : Nat → Int) : tab (n + 1) f = tab n f ++ [.int .i64 (f n)] := by simp [tab, List.range_succ]
theorem tab_at {n i : Nat} (f : Nat → Int) (h : i < n) : (tab n f)[i]? = some (.int .i64 (f i)) := by simp [tab, h]
theorem tab_one (n : Nat) (f : Nat → Int) : ∀ u ∈ tab n f, u.oneCell' = true := by
  intro u hu
  obtain ⟨i, _, rfl⟩ := List.mem_map.1 hu
  rfl
theorem tab_congr {n : Nat} {f g : Nat → Int} (h : ∀ i, i < n → f i = g i) : tab n f = tab n g := by
  unfold tab
  exact List.map_congr_left fun i hi => by rw [h i (List.mem_range.1 hi)]
def D (f : Nat → Int) : Nat → Int := fun i => f (i + 1) - f i
def Dn : Nat → (Nat → Int) → Nat → Int
  | 0, f => f
  | k + 1, f => D (Dn k f)
def Small (M n : Nat) (f : Nat → Int) : Prop := ∀ i, i < n → -(M : Int) ≤ f i ∧ f i ≤ M
theorem Small.D {M n : Nat} {f : Nat → Int} (h : Small M n f) : Small (2 * M) (n - 1) (D f) := by
  intro i hi
  have h1 := h i (by omega)
  have h2 := h (i + 1) (by omega)
  show _ ≤ f (i + 1) - f i ∧ f (i + 1) - f i ≤ _
  omega
theorem Small.Dn {M n : Nat} {f : Nat → Int} (h : Small M n f) : ∀ k, Small (2 ^ k * M) (n - k) (Dn k f)
  | 0 => by rw [Nat.pow_zero, Nat.one_mul]; exact h
  | k + 1 => by
    have := (Small.Dn h k).D
    rw [Nat.pow_succ, show n - (k + 1) = n - k - 1 by omega, show 2 ^ k * 2 * M = 2 * (2 ^ k * M) by rw [Nat.mul_comm (2 ^ k) 2, Nat.mul_assoc]]
    exact this
theorem Small.more {M M' n : Nat} {f : Nat → Int} (h : Small M n f) (hM : M ≤ M') : Small M' n f := fun i hi => by have := h i hi; omega
theorem rdF_all {w : World} {B n n' c : Nat} {A : Option Addr} {f : Nat → Int} (h : Rd w B (.slice A n' c) n 1 (tab n f)) (hn : 0 < n) : ∃ b off, A = some ⟨b, off, none⟩ ∧ b < B ∧ ∀ j, j < n → w.cell? ⟨b, off + j, none⟩ = some (.int .i64 (f j)) := by
  obtain ⟨_, A', c', hv, hc⟩ := h
  injection hv with e1 e2 e3
  subst e1
  obtain ⟨b, off, hA, hb, hcc⟩ := hc (by omega)
  exact ⟨b, off, hA, hb, fun j hj => hcc j _ (tab_at f hj)⟩
theorem own_sl {w : World} {base n size : Nat} {e : TypeId} {v : Value} {cs : List Value} (h : w.ownsRow base e size v n cs) : ∃ A c, v = .slice A n c := by
  obtain ⟨_, A, c, h, _⟩ := Rd.of_own h
  exact ⟨A, c, h⟩
theorem rd_sl {w : World} {B n sz : Nat} {v : Value} {cs : List Value} (h : Rd w B v n sz cs) : ∃ A c, v = .slice A n c := by
  obtain ⟨_, A, c, h, _⟩ := h
  exact ⟨A, c, h⟩
/-- a row of numbers of the call's own is handed back -/
def RetF (w : World) (n : Nat) (f : Nat → Int) (e : Ending) (w' : World) : Prop :=
  ∃ v, e = .returned v ∧ w'.ownsRow w.heap.size 2 1 v n (tab n f) ∧ Below w.heap.size w w'

end Go.Proofs.YtepgfcjfdnakbaaDoor
/- Rounding, part 1: rounded values and patterns of errors, in plain words. -/
namespace Go.Proofs.YtepgfcjfdnakbaaDoor

/-- how many units a value has, rounded -/
def ru (v u : Int) : Int := (2 * v + u) / (2 * u)
theorem ru_bd {v u : Int} (hu : 0 < u) : 2 * (ru v u * u) ≤ 2 * v + u ∧ 2 * v - u < 2 * (ru v u * u) := by
  have h1 := Int.mul_ediv_add_emod (2 * v + u) (2 * u)
  have h2 := Int.emod_nonneg (2 * v + u) (show 2 * u ≠ 0 by omega)
  have h3 := Int.emod_lt_of_pos (2 * v + u) (show 0 < 2 * u by omega)
  have e : 2 * u * ((2 * v + u) / (2 * u)) = 2 * (ru v u * u) := by
    unfold ru
    rw [Int.mul_assoc, Int.mul_comm u]
  rw [e] at h1
  omega
theorem ru_le {v u M : Int} (hu : 1 ≤ u) (hM : 0 ≤ M) (hv : v ≤ M) : ru v u ≤ M := by
  refine Int.le_of_lt_add_one (Int.ediv_lt_of_lt_mul (by omega) ?_)
  have h1 : M ≤ M * u := by
    have := Int.mul_le_mul_of_nonneg_left hu hM
    rwa [Int.mul_one] at this
  have e : (M + 1) * (2 * u) = 2 * (M * u) + 2 * u := by rw [Int.add_mul, ← Int.mul_assoc, Int.mul_comm M 2, Int.mul_assoc, Int.one_mul]
  rw [e]; omega
theorem ru_ge {v u M : Int} (hu : 1 ≤ u) (hM : 0 ≤ M) (hv : -M ≤ v) : -M ≤ ru v u := by
  refine Int.le_ediv_of_mul_le (by omega) ?_
  have h1 : M ≤ M * u := by
    have := Int.mul_le_mul_of_nonneg_left hu hM
    rwa [Int.mul_one] at this
  have e : -M * (2 * u) = -(2 * (M * u)) := by rw [Int.neg_mul, ← Int.mul_assoc, Int.mul_comm M 2, Int.mul_assoc]
  rw [e]; omega
/-- Go's quotient and remainder, turned to a quotient that is rounded down -/
theorem fl_div {a b : Int} (hb : 0 < b) : (if a.tmod b < 0 then a.tdiv b - 1 else a.tdiv b) = a / b := by
  have h1 := Int.tmod_add_mul_tdiv a b
  have h2 : -b < a.tmod b := by
    have h4 := Int.natAbs_tmod a b
    have h5 := Nat.mod_lt a.natAbs (show 0 < b.natAbs by omega)
    omega
  have h3 : a.tmod b < b := Int.tmod_lt_of_pos a hb
  split
  · rename_i h
    exact ((Int.ediv_emod_unique (q := a.tdiv b - 1) (r := a.tmod b + b) hb).2 ⟨by rw [Int.mul_sub, Int.mul_one]; omega, by omega, by omega⟩).1.symm
  · exact ((Int.ediv_emod_unique (q := a.tdiv b) (r := a.tmod b) hb).2 ⟨by omega, by omega, by omega⟩).1.symm
/-- errors that make the error of a difference greatest, for the error 1 -/
def wp (n : Nat) (k : Nat) : Int := if (n - k) % 2 = 1 then -1 else 1
theorem wp_top : ∀ n, n < 9 → Dn n (wp n) 0 = ((2 ^ n : Nat) : Int) := by decide +kernel
theorem Dn_mul (f : Nat → Int) (s : Int) : ∀ m, Dn m (fun x => s * f x) = fun i => s * Dn m f i
  | 0 => rfl
  | m + 1 => by
    show D (Dn m (fun x => s * f x)) = _
    rw [Dn_mul f s m]
    funext i
    show s * Dn m f (i + 1) - s * Dn m f i = s * (Dn m f (i + 1) - Dn m f i)
    rw [Int.mul_sub]
end Go.Proofs.YtepgfcjfdnakbaaDoor
/- Differences, part 2: copies, differences of an order, leading differences, tests of entries. -/
namespace Go.Proofs.YtepgfcjfdnakbaaDoor
open Go.RowKit Go.Joins

theorem pow_mul_le {j k M X : Nat} (h : 2 ^ k * M ≤ X) (hj : j ≤ k) : 2 ^ j * M ≤ X :=
  Nat.le_trans (Nat.mul_le_mul_right M (Nat.pow_le_pow_right (by omega) hj)) h

theorem own_apart {w w2 w' : World} {b1 n1 n2 s1 s2 : Nat} {e1 e2 : TypeId} {v1 v2 : Value} {c1 c2 : List Value} (h1 : w.ownsRow b1 e1 s1 v1 n1 c1) (h2 : w2.ownsRow w.heap.size e2 s2 v2 n2 c2) (hg : w2.grownBy w' v1.ownBlock) : w'.ownsRow w.heap.size e2 s2 v2 n2 c2 := by
  refine h2.kept hg ?_
  cases h : v2.ownBlock with
  | none => exact .inl rfl
  | some g =>
    refine .inr fun e => ?_
    have k2 := (h2.lt g h).1
    have k1 := (h1.lt g (by rw [← e])).2
    omega
theorem rd_apart {w w2 : World} {B base n1 n2 s1 s2 : Nat} {e1 : TypeId} {v1 v2 : Value} {c1 c2 : List Value} (h1 : w.ownsRow base e1 s1 v1 n1 c1) (hB : B ≤ base) (hbs : base ≤ w.heap.size) (h2 : Rd w B v2 n2 s2 c2) (hg : w.grownBy w2 v1.ownBlock) : Rd w2 w2.heap.size v2 n2 s2 c2 :=
  have hb : Below B w w2 := (Below.refl B w).grown hg (Nat.le_trans hB hbs) (fun k hk => Nat.le_trans hB (h1.lt k hk).1)
  (h2.below hb).more (Nat.le_trans (Nat.le_trans hB hbs) hg.size)

end Go.Proofs.YtepgfcjfdnakbaaDoor
/- Differences, part 3: tests of entries, Newton's values, binomial coefficients. -/
namespace Go.Proofs.YtepgfcjfdnakbaaDoor
open Go.RowKit Go.Joins

theorem inB_true {n lo hi : Int} (h1 : lo ≤ n) (h2 : n ≤ hi) : inB n lo hi = true := by simp [inB, h1, h2]

/-- the binomial coefficients as the code makes them -/
def chb (x : Nat) : Nat → Nat
  | 0 => 1
  | k + 1 => if k < x then chb x k * (x - k) / (k + 1) else 0
theorem chb_bd : ∀ x, x < 14 → ∀ k, k < 10 → chb x k ≤ 1716 := by decide +kernel
def nval (f : Nat → Int) (x : Nat) : Nat → Int
  | 0 => 0
  | j + 1 => nval f x j + f j * (chb x j : Int)
theorem mul_bd {a : Int} {C : Nat} (h : -(C : Int) ≤ a ∧ a ≤ C) (b M : Nat) (hb : b ≤ M) : -((C * M : Nat) : Int) ≤ a * (b : Int) ∧ a * (b : Int) ≤ ((C * M : Nat) : Int) := by
  have h1 : a.natAbs ≤ C := by omega
  have h2 : (a * (b : Int)).natAbs ≤ C * M := by
    rw [Int.natAbs_mul, Int.natAbs_natCast]
    exact Nat.mul_le_mul h1 hb
  omega
theorem nval_bd {f : Nat → Int} {C n x : Nat} (hS : Small C n f) (hx : x < 14) (hn : n ≤ 9) : ∀ j, j ≤ n → -((j * (C * 1716) : Nat) : Int) ≤ nval f x j ∧ nval f x j ≤ ((j * (C * 1716) : Nat) : Int)
  | 0, _ => by simp [nval]
  | j + 1, hj => by
    have h1 := nval_bd hS hx hn j (by omega)
    have h2 := mul_bd (hS j (by omega)) (chb x j) 1716 (chb_bd x hx j (by omega))
    show _ ≤ nval f x j + f j * (chb x j : Int) ∧ nval f x j + f j * (chb x j : Int) ≤ _
    rw [Nat.add_mul, Nat.one_mul]
    omega

theorem quo_bd (c : Int) (h0 : c ≠ 0) (h1 : -1000000 ≤ c ∧ c ≤ 1000000) : (1000000000 : Int) ≤ (1000000000000000 : Int) / (c.natAbs : Int) := by
  have h2 : (0 : Int) < (c.natAbs : Int) := by omega
  rw [Int.le_ediv_iff_mul_le h2]
  omega

end Go.Proofs.YtepgfcjfdnakbaaDoor
/- Small laws for quiet calls. -/
namespace Go.Proofs.YtepgfcjfdnakbaaDoor
open Go.RowKit Go.Joins

theorem rdN {w w' : World} {v : Value} {n sz : Nat} {cs : List Value} (h : Rd w w.heap.size v n sz cs) (hb : Below w.heap.size w w') : Rd w' w'.heap.size v n sz cs := (h.below hb).more hb.size
theorem own_posC {w : World} {base n size : Nat} {e : TypeId} {v : Value} {cs : List Value} (h : w.ownsRow base e size v n cs) (hn : 0 < n) : ∃ g cap, v = .slice (some ⟨g, 0, none⟩) n cap ∧ n ≤ cap ∧ cap ≤ maxLen := by
  rcases h.2 with ⟨_, h0⟩ | ⟨g, cap, _, hv, _, _, h1, h2, _⟩
  · omega
  · exact ⟨g, cap, hv, h1, h2⟩
theorem flipQ {P : Program} {f : FuncId} {args : Array Value} {w : World} {v : Value} (h : Calls P f args w fun e w' => e = .returned v ∧ w = w') : Calls P f args w fun e w' => e = .returned v ∧ w' = w :=
  h.mono fun _ _ ⟨h1, h2⟩ => ⟨h1, h2.symm⟩
theorem abs_mul {a b A B : Int} (ha : -A ≤ a ∧ a ≤ A) (hb : -B ≤ b ∧ b ≤ B) : -(A * B) ≤ a * b ∧ a * b ≤ A * B := by
  have h1 : a.natAbs ≤ A.natAbs := by omega
  have h2 : b.natAbs ≤ B.natAbs := by omega
  have h3 : (a * b).natAbs ≤ A.natAbs * B.natAbs := by rw [Int.natAbs_mul]; exact Nat.mul_le_mul h1 h2
  have h4 : (A * B).natAbs = A.natAbs * B.natAbs := Int.natAbs_mul A B
  have h5 : 0 ≤ A * B := Int.mul_nonneg (by omega) (by omega)
  omega

/-- a result of two fields in a block of its own: ahead of the store -/
theorem res2_pre {w w2 : World} {x y : Value} {t : TypeId} (h : Below (w.alloc (.cells #[x, y] t)).heap.size (w.alloc (.cells #[x, y] t)) w2) :
    w2.cell? ⟨w.heap.size, 0, none⟩ = some x ∧ w2.cell? ⟨w.heap.size, 1, none⟩ = some y ∧ w2.frozen? ⟨w.heap.size, 0, none⟩ = false ∧ w2.frozen? ⟨w.heap.size, 1, none⟩ = false :=
  blk2 ((h.block w.heap.size (by simp)).trans (heap_alloc_new w _))
/-- .. and behind it -/
theorem res2_post {w w2 : World} {x y : Value} {t : TypeId} (h : Below (w.alloc (.cells #[x, y] t)).heap.size (w.alloc (.cells #[x, y] t)) w2) (a b : Value) :
    ((w2.setCell ⟨w.heap.size, 0, none⟩ a).setCell ⟨w.heap.size, 1, none⟩ b).cell? ⟨w.heap.size, 0, none⟩ = some a ∧ ((w2.setCell ⟨w.heap.size, 0, none⟩ a).setCell ⟨w.heap.size, 1, none⟩ b).cell? ⟨w.heap.size, 1, none⟩ = some b ∧
    Below w.heap.size w ((w2.setCell ⟨w.heap.size, 0, none⟩ a).setCell ⟨w.heap.size, 1, none⟩ b) := by
  have g := heap_setCell_same _ w.heap.size 1 _ _ b (heap_setCell_same w2 w.heap.size 0 _ _ a ((h.block w.heap.size (by simp)).trans (heap_alloc_new w _)))
  obtain ⟨p, q, _, _⟩ := blk2 g
  exact ⟨p, q, ((((Below.refl w.heap.size w).alloc (Nat.le_refl _) _).trans (h.mono (by simp))).setCell (p := ⟨w.heap.size, 0, none⟩) (Nat.le_refl _) a).setCell (p := ⟨w.heap.size, 1, none⟩) (Nat.le_refl _) b⟩
theorem res2_own {w2 : World} {base B n sz : Nat} {e : TypeId} {v : Value} {xs : List Value} (h : w2.ownsRow base e sz v n xs) {g : Nat} (hg : g < base) (hB : B ≤ base) (a b : Value) : ((w2.setCell ⟨g, 0, none⟩ a).setCell ⟨g, 1, none⟩ b).ownsRow B e sz v n xs :=
  ownsRow_le (ownsRow_setCell_below (ownsRow_setCell_below h (a := ⟨g, 0, none⟩) hg a) (a := ⟨g, 1, none⟩) hg b) hB
/-- a boxed argument of two fields -/
theorem box2 {w : World} {x y : Value} {t : TypeId} : (w.alloc (.cells #[x, y] t)).cell? ⟨w.heap.size, 0, none⟩ = some x ∧ (w.alloc (.cells #[x, y] t)).cell? ⟨w.heap.size, 1, none⟩ = some y :=
  have h := blk2 (heap_alloc_new w (.cells #[x, y] t))
  ⟨h.1, h.2.1⟩

theorem cell_alloc {w : World} {g i : Nat} {v : Value} (h : w.cell? ⟨g, i, none⟩ = some v) (o : Obj) : (w.alloc o).cell? ⟨g, i, none⟩ = some v :=
  (((Below.refl w.heap.size w).alloc (Nat.le_refl _) o).cell (p := ⟨g, i, none⟩) (World.block_lt_of_cell? w _ h)).trans h
/-- append of new elements at a step of a region that draws, where the world has no draw of its own (behind a call) -/
theorem step_apd0 {P : Program} {w : World} {ops : Array Oper} {o : Oper} {a : Act} {K : Act → World → Prop} {Q : Exit → Act → World → Prop} {E : Prop} (t e : TypeId) (z : Value) (size bytes : Nat)
    (ht : P.underlying t = some (.slice e)) (hinfo : (P.info? e).map (fun i => (i.zero, i.size, i.bytes)) = some (some z, size, bytes)) (hzs : z.cells.size = size) (hsz : 0 < size)
    (s x : Operand) (hgd : o.guard = none) (ho : o.op = .call { callee := .builtin .append, args := #[s, x], argTypes := #[t, t] })
    (base : Nat) (v : Value) (n : Nat) (xs : List Value) (hs : a.eval s = v) (hown : w.ownsRow base e size v n xs)
    (cs : Array Value) (m c : Nat) (hx : a.eval x = .slice (some ⟨w.heap.size, 0, none⟩) m c) (hl : cs.toList.length = m * size) (h1 : ∀ u ∈ cs.toList, u.oneCell' = true)
    (h63 : n + m ≤ maxLen) (hbytes : (n + m) * bytes ≤ 140737488355328) (hbase : base ≤ w.heap.size)
    (h : ∀ v' w', w'.ownsRow base e size v' (n + m) (xs ++ cs.toList) → w.grownBy w' v.ownBlock → K (a.put o.dst v') w') :
    if Region.wanted o (yielded ops a.tmps) = true then Oper.wp P o a (w.alloc (.cells cs e)) K Q else E := by
  have hw : Region.wanted o (yielded ops a.tmps) = true := by simp [Region.wanted, hgd]
  rw [if_pos hw]
  exact wp_apd (w := w) t e z size bytes ht hinfo hzs hsz s x ho base v n xs hs hown cs m c hx hl h1 h63 hbytes hbase h
end Go.Proofs.YtepgfcjfdnakbaaDoor
/- Errors of tables, part 1: small tests, and values rounded to units. -/
namespace Go.Proofs.YtepgfcjfdnakbaaDoor
open Go.RowKit Go.Joins

theorem l00Max_c (a b : Int) (w : World) : Calls Tryd.prog 100 #[.int .i64 a, .int .i64 b] w fun e w' => e = .returned (.int .i64 (max a b)) ∧ w = w' := by
  by_cases h : b < a
  · have e : max a b = a := by omega
    rw [e]
    go_enter Tryd.func100, Tryd.ntmps100
    go_wp2_with fail
    go_ret
    exact ⟨rfl, rfl⟩
  · have e : max a b = b := by omega
    rw [e]
    go_enter Tryd.func100, Tryd.ntmps100
    go_wp2_with fail
    go_ret
    exact ⟨rfl, rfl⟩
theorem l00Min_c (a b : Int) (w : World) : Calls Tryd.prog 90 #[.int .i64 a, .int .i64 b] w fun e w' => e = .returned (.int .i64 (min a b)) ∧ w = w' := by
  by_cases h : a < b
  · have e : min a b = a := by omega
    rw [e]
    go_enter Tryd.func90, Tryd.ntmps90
    go_wp2_with fail
    go_ret
    exact ⟨rfl, rfl⟩
  · have e : min a b = b := by omega
    rw [e]
    go_enter Tryd.func90, Tryd.ntmps90
    go_wp2_with fail
    go_ret
    exact ⟨rfl, rfl⟩
theorem td_bd {a b : Int} (_hb : 1 ≤ b) (h : -4611686018427387904 ≤ a ∧ a ≤ 4611686018427387904) : -4611686018427387904 ≤ a.tdiv b ∧ a.tdiv b ≤ 4611686018427387904 := by
  have h1 : (a.tdiv b).natAbs ≤ a.natAbs := by rw [Int.natAbs_tdiv]; exact Nat.div_le_self _ _
  omega
def okU (v u : Int) : Bool := inB v (-1000000000000) 1000000000000 && inB u 1 1000000
def rV (v u : Int) : Int := if okU v u then (if 1000000000000 < ru v u * u then 0 else ru v u * u) else 0
def rE (v u : Int) : Int := if okU v u then (if 1000000000000 < ru v u * u then 5 else 0) else 2
theorem inB_iff {n a b : Int} : inB n a b = true ↔ a ≤ n ∧ n ≤ b := by simp [inB]
theorem inB_not {n a b : Int} : inB n a b = false ↔ ¬ (a ≤ n ∧ n ≤ b) := by rw [← inB_iff]; simp
end Go.Proofs.YtepgfcjfdnakbaaDoor
/- A map from names to truth that the call has made: the names that it holds. -/
namespace Go.Proofs.YtepgfcjfdnakbaaDoor
open Go.RowKit Go.Joins Go.Maps

def hasNm (ns : List ByteArray) (s : ByteArray) : Bool := ns.any fun t => decide (t = s)
theorem keyedS : Keyed Tryd.prog 9 := string_keyed Tryd.underlying9
/-- block b holds the map whose names are ns -/
def NmMap (w : World) (b : Nat) (ns : List ByteArray) : Prop :=
  ∃ D : DataW Unit, w.ownsMap Tryd.prog 9 (plainElem Tryd.prog 4) b ns.length D ∧ IsMap D ∧ ∀ s : ByteArray, D.atKey (.string s.data.toList) (.lit (.bool false)) = .lit (.bool (hasNm ns s))
theorem NmMap.made (w : World) : NmMap (w.alloc (.map #[] 0)) w.heap.size [] :=
  ⟨.map [], World.ownsMap_made _ _ _ _, isMap_empty, fun s => rfl⟩
theorem NmMap.lt {w : World} {b : Nat} {ns : List ByteArray} (h : NmMap w b ns) : b < w.heap.size := by
  obtain ⟨D, h1, _⟩ := h
  exact h1.lt
theorem NmMap.kept {w w' : World} {b : Nat} {ns : List ByteArray} {row : Option Nat} (h : NmMap w b ns) (hg : w.grownBy w' row) (hne : some b ≠ row) : NmMap w' b ns := by
  obtain ⟨D, h1, h2, h3⟩ := h
  exact ⟨D, h1.kept hg hne, h2, h3⟩
theorem NmMap.below {w w' : World} {b : Nat} {ns : List ByteArray} (h : NmMap w b ns) (hb : Below w.heap.size w w') : NmMap w' b ns := h.kept (grown_of_below hb none) (by simp)
set_option maxRecDepth 100000 in
theorem zeroBool (w : World) : (zeroValue 4).run Tryd.prog w = .ok (.bool false) w := by kernel_rfl
set_option maxRecDepth 100000 in
theorem plainElem_bool_inv {H : Type} {v : Value} {z : DataW H × List MemPlace} (h : plainElem Tryd.prog 4 v = some z) : ∃ x, v = .bool x ∧ z = (.lit (.bool x), []) := by
  unfold plainElem at h
  rw [Tryd.underlying4] at h
  cases v <;> simp at h
  exact ⟨_, rfl, h.symm⟩
theorem NmMap.look {w : World} {b : Nat} {ns : List ByteArray} (h : NmMap w b ns) (s : ByteArray) (hs : s.size ≤ maxLen) :
    (Instr.lookup 86 (.map (some b)) (.string s) false).run Tryd.prog w = .ok (.bool (hasNm ns s)) w := by
  obtain ⟨D, h1, h2, h3⟩ := h
  obtain ⟨v, ps, hrun, hv⟩ := h1.lookup keyedS Tryd.underlying86 (zeroBool w) (plainElem_bool Tryd.underlying4 false) (Go.WideMaps.keyOf_string_mk Tryd.underlying9 hs)
  rw [h3 s] at hv
  obtain ⟨x, rfl, hx⟩ := plainElem_bool_inv hv
  have : hasNm ns s = x := (by simpa using hx : hasNm ns s = x ∧ ps = []).1
  rw [this]
  exact hrun
theorem ba_list {a b : ByteArray} (h : a.data.toList = b.data.toList) : a = b := ByteArray.ext (Array.ext' h)
/-- a name is put in -/
theorem NmMap.put {w' : World} {b : Nat} {ns : List ByteArray} (s : ByteArray) {D : DataW Unit} (h2 : IsMap D) (h3 : ∀ s : ByteArray, D.atKey (.string s.data.toList) (.lit (.bool false)) = .lit (.bool (hasNm ns s)))
    (h : w'.ownsMap Tryd.prog 9 (plainElem Tryd.prog 4) b (ns.length + 1) (D.put (.string s.data.toList) (.lit (.bool true)))) : NmMap w' b (ns ++ [s]) := by
  refine ⟨_, by rw [List.length_append]; exact h, h2.put _ _, fun t => ?_⟩
  by_cases e : t = s
  · subst e
    rw [atKey_put_same h2 (by trivial)]
    have : hasNm (ns ++ [t]) t = true := by unfold hasNm; rw [List.any_append]; simp
    rw [this]
  · rw [atKey_put_other (by intro e2; injection e2 with e3; exact e (ba_list e3)), h3 t]
    have : hasNm (ns ++ [s]) t = hasNm ns t := by
      unfold hasNm
      rw [List.any_append]
      have e2 : ¬ s = t := fun h => e h.symm
      simp [e2]
    rw [this]
theorem NmMap.upd {w : World} {b : Nat} {ns : List ByteArray} (h : NmMap w b ns) (s : ByteArray) (hs : s.size ≤ maxLen) (hn : ns.length < maxLen) :
    ∃ w', (Instr.mapUpdate 86 (.map (some b)) (.string s) (.bool true)).run Tryd.prog w = .ok () w' ∧ NmMap w' b (ns ++ [s]) ∧ w.grownBy w' (some b) := by
  obtain ⟨D, h1, h2, h3⟩ := h
  obtain ⟨w', hrun, hown, hg⟩ := h1.update keyedS Tryd.underlying86 hn (WideMaps.keyOf_string_mk Tryd.underlying9 hs) (plainElem_bool Tryd.underlying4 true)
  exact ⟨w', hrun, NmMap.put s h2 h3 hown, hg⟩
end Go.Proofs.YtepgfcjfdnakbaaDoor
/- Errors of tables, part 2: lists that are checked. -/
namespace Go.Proofs.YtepgfcjfdnakbaaDoor
open Go.RowKit Go.Joins

theorem ret_bool {a b : Bool} (h : a = b) : Ending.returned (.bool a) = .returned (.bool b) := by rw [h]
def allN (n : Nat) (f : Nat → Bool) : Bool := (List.range n).all f
theorem allN_bad {n : Nat} {f : Nat → Bool} (k : Nat) (hk : k < n) (h : f k = false) : allN n f = false := by
  unfold allN
  rw [List.all_eq_false]
  exact ⟨k, List.mem_range.2 hk, by simp [h]⟩
theorem allN_zero (f : Nat → Bool) : allN 0 f = true := rfl
theorem allN_step {f : Nat → Bool} {k : Nat} (h0 : allN k f = true) (h : f k = true) : allN (k + 1) f = true := by
  unfold allN at *
  rw [List.range_succ, List.all_append, h0]
  simp [h]
theorem allN_get {f : Nat → Bool} {n k : Nat} (h : allN n f = true) (hk : k < n) : f k = true := List.all_eq_true.1 h k (List.mem_range.2 hk)
theorem allN_congr {f g : Nat → Bool} {n : Nat} (h : ∀ i, i < n → f i = g i) : allN n f = allN n g := by
  induction n with
  | zero => rfl
  | succ n ih =>
    unfold allN at *
    rw [List.range_succ, List.all_append, List.all_append, ih (fun i hi => h i (by omega))]
    simp [h n (by omega)]
/-- the code of values and a unit -/
def rc (n : Nat) (f : Nat → Int) (u : Int) : Int := if allN n (fun i => inB (f i) (-1000000000000) 1000000000000) then (if inB u 1 1000000 then (if 200 < n then 5 else 0) else 2) else 2
theorem rc_bad {n : Nat} {f : Nat → Int} {u : Int} (h : allN n (fun i => inB (f i) (-1000000000000) 1000000000000) = false) : rc n f u = 2 := by unfold rc; rw [h]; rfl
theorem rc_unit {n : Nat} {f : Nat → Int} {u : Int} (h : inB u 1 1000000 = false) : rc n f u = 2 := by unfold rc; rw [h]; split <;> rfl
theorem rc_end {n : Nat} {f : Nat → Int} {u : Int} (h : allN n (fun i => inB (f i) (-1000000000000) 1000000000000) = true) (h2 : inB u 1 1000000 = true) : rc n f u = if 200 < n then 5 else 0 := by unfold rc; rw [h, h2]; rfl
theorem rc_ok {n : Nat} {f : Nat → Int} {u : Int} (h : rc n f u = 0) : (∀ i, i < n → -1000000000000 ≤ f i ∧ f i ≤ 1000000000000) ∧ (1 ≤ u ∧ u ≤ 1000000) ∧ n ≤ 200 := by
  unfold rc at h
  split at h
  · rename_i h1
    split at h
    · rename_i h2
      split at h
      · cases h
      · exact ⟨fun i hi => inB_iff.1 (allN_get h1 hi), inB_iff.1 h2, by omega⟩
    · cases h
  · cases h
theorem rc_cases (n : Nat) (f : Nat → Int) (u : Int) : rc n f u = 0 ∨ rc n f u = 2 ∨ rc n f u = 5 := by
  unfold rc
  split
  · split
    · split
      · exact .inr (.inr rfl)
      · exact .inl rfl
    · exact .inr (.inl rfl)
  · exact .inr (.inl rfl)
def slipB (n : Nat) (f : Nat → Int) : Bool := allN n (fun i => inB (f i) 0 1000000) && inB n 1 9
theorem slipB_bad {n : Nat} {f : Nat → Int} (h : allN n (fun i => inB (f i) 0 1000000) = false) : slipB n f = false := by unfold slipB; rw [h]; rfl
theorem slipB_end {n : Nat} {f : Nat → Int} (h : allN n (fun i => inB (f i) 0 1000000) = true) : slipB n f = inB n 1 9 := by unfold slipB; rw [h]; rfl
theorem slipB_ok {n : Nat} {f : Nat → Int} (h : slipB n f = true) : (∀ i, i < n → 0 ≤ f i ∧ f i ≤ 1000000) ∧ 1 ≤ n ∧ n ≤ 9 := by
  unfold slipB at h
  rw [Bool.and_eq_true] at h
  have := inB_iff.1 h.2
  exact ⟨fun i hi => inB_iff.1 (allN_get h.1 hi), by omega, by omega⟩
end Go.Proofs.YtepgfcjfdnakbaaDoor
/- Names: IsName on both sides. -/
namespace Go.Proofs.YtepgfcjfdnakbaaDoor
open Go.RowKit Go.Joins

def smC (c : Nat) : Bool := decide (97 ≤ c) && decide (c ≤ 122)
def dgC (c : Nat) : Bool := decide (48 ≤ c) && decide (c ≤ 57)
def okC (c : Nat) : Bool := smC c || dgC c || decide (c = 45)
/-- a name -/
def isNm (l : List UInt8) : Bool := match l with
  | [] => false
  | c :: t => decide (t.length < 12) && smC c.toNat && (c :: t).all fun c => okC c.toNat
theorem isNm_nil : isNm [] = false := rfl
theorem isNm_cons (c : UInt8) (t : List UInt8) : isNm (c :: t) = (decide (t.length < 12) && smC c.toNat && (c :: t).all fun c => okC c.toNat) := rfl
theorem isNm_long (l : List UInt8) (h : 12 < l.length) : isNm l = false := by
  cases l with
  | nil => rfl
  | cons c t =>
    have : ¬ t.length < 12 := by simp at h; omega
    simp [isNm, this]
theorem isNm_bad (l : List UInt8) (k : Nat) (hk : k < l.length) (h : okC l[k].toNat = false) : isNm l = false := by
  cases l with
  | nil => rfl
  | cons c t =>
    have : ((c :: t).all fun c => okC c.toNat) = false := by
      rw [List.all_eq_false]
      exact ⟨_, List.getElem_mem hk, by simp [h]⟩
    rw [isNm_cons, this, Bool.and_false]
theorem isNm_first (l : List UInt8) (hk : 0 < l.length) (h : smC l[0].toNat = false) : isNm l = false := by
  cases l with
  | nil => rfl
  | cons c t => simp at h; simp [isNm, h]
theorem isNm_yes (l : List UInt8) (hk : 0 < l.length) (hk2 : l.length ≤ 12) (h : smC l[0].toNat = true) (ha : (l.all fun c => okC c.toNat) = true) : isNm l = true := by
  cases l with
  | nil => simp at hk
  | cons c t =>
    simp only [List.length_cons] at hk2
    have : t.length < 12 := by omega
    simp at h
    rw [isNm_cons, ha, h]
    simp [this]
theorem all_step (l : List UInt8) (k : Nat) (hk : k < l.length) (h0 : ((l.take k).all fun c => okC c.toNat) = true) (h : okC l[k].toNat = true) : ((l.take (k + 1)).all fun c => okC c.toNat) = true := by
  rw [List.take_succ_eq_append_getElem hk, List.all_append, h0]
  simp [h]
theorem chr_cases (x : Nat) : (smC x = true ∧ 97 ≤ x ∧ x ≤ 122) ∨ (smC x = false ∧ dgC x = true ∧ 48 ≤ x ∧ x ≤ 57) ∨ (smC x = false ∧ dgC x = false ∧ x = 45) ∨ (smC x = false ∧ dgC x = false ∧ x ≠ 45 ∧ x < 97) ∨ (smC x = false ∧ dgC x = false ∧ x ≠ 45 ∧ 122 < x) := by
  simp only [smC, dgC, Bool.and_eq_true, Bool.and_eq_false_iff, decide_eq_true_eq, decide_eq_false_iff_not]
  omega

theorem isDigit_any (x : Nat) (w : World) :
    Calls Tryd.prog 94 #[.int .u8 (x : Int)] w fun e w' => e = .returned (.bool (dgC x)) ∧ w = w' := by
  by_cases h1 : 48 ≤ x
  · by_cases h2 : x ≤ 57
    all_goals
      have e1 := Lib.hid (show dgC x = decide (x ≤ 57) by simp [dgC, h1])
      go_enter Tryd.func94, Tryd.ntmps94
      go_wp2
      go_ret
      rw [e1.out]; simp [h2] <;> omega
  · have e1 := Lib.hid (show dgC x = false by simp [dgC, h1])
    have h1' : (x : Int) < 48 := by omega
    go_enter Tryd.func94, Tryd.ntmps94
    go_wp2
    go_ret
    rw [e1.out]; exact ⟨rfl, rfl⟩
theorem l01Small_any (x : Nat) (w : World) :
    Calls Tryd.prog 102 #[.int .u8 (x : Int)] w fun e w' => e = .returned (.bool (smC x)) ∧ w = w' := by
  by_cases h1 : 97 ≤ x
  · by_cases h2 : x ≤ 122
    all_goals
      have e1 := Lib.hid (show smC x = decide (x ≤ 122) by simp [smC, h1])
      go_enter Tryd.func102, Tryd.ntmps102
      go_wp2
      go_ret
      rw [e1.out]; simp [h2] <;> omega
  · have e1 := Lib.hid (show smC x = false by simp [smC, h1])
    have h1' : (x : Int) < 97 := by omega
    go_enter Tryd.func102, Tryd.ntmps102
    go_wp2
    go_ret
    rw [e1.out]; exact ⟨rfl, rfl⟩
theorem l01Digit_any (x : Nat) (w : World) :
    Calls Tryd.prog 97 #[.int .u8 (x : Int)] w fun e w' => e = .returned (.bool (dgC x)) ∧ w = w' := by
  by_cases h1 : 48 ≤ x
  · by_cases h2 : x ≤ 57
    all_goals
      have e1 := Lib.hid (show dgC x = decide (x ≤ 57) by simp [dgC, h1])
      go_enter Tryd.func97, Tryd.ntmps97
      go_wp2
      go_ret
      rw [e1.out]; simp [h2] <;> omega
  · have e1 := Lib.hid (show dgC x = false by simp [dgC, h1])
    have h1' : (x : Int) < 48 := by omega
    go_enter Tryd.func97, Tryd.ntmps97
    go_wp2
    go_ret
    rw [e1.out]; exact ⟨rfl, rfl⟩
end Go.Proofs.YtepgfcjfdnakbaaDoor
/- Names, part 2: the walks of IsName. -/
namespace Go.Proofs.YtepgfcjfdnakbaaDoor
open Go.RowKit Go.Joins

theorem okC_sm {x : Nat} (h : smC x = true) : okC x = true := by simp [okC, h]
theorem okC_dg {x : Nat} (h : dgC x = true) : okC x = true := by simp [okC, h]
theorem okC_da {x : Nat} (h : x = 45) : okC x = true := by simp [okC, h]
theorem okC_no {x : Nat} (h : smC x = false) (h2 : dgC x = false) (h3 : x ≠ 45) : okC x = false := by simp [okC, h, h2, h3]

set_option maxRecDepth 100000 in
set_option maxHeartbeats 1600000 in
theorem IsNameI_any (s : ByteArray) (w : World) (hs : s.size ≤ 1048576) :
    Calls Tryd.prog 76 #[.string s] w fun e w' => e = .returned (.bool (isNm s.data.toList)) ∧ w = w' := by
  have hsz : s.data.toList.length = s.size := by simp
  have Hsz := Lib.hid hsz; clear hsz
  by_cases h0 : s.size = 0
  · have hfin := Lib.hid (show isNm s.data.toList = false by
      have he : s.data.toList = [] := List.eq_nil_of_length_eq_zero (by rw [Hsz.out, h0])
      rw [he]; rfl)
    have hq : ((s.size : Int) == 0) = true := by simp [h0]
    clear h0
    go_enter Tryd.func76, Tryd.ntmps76
    go_wp2_with fail
    go_ret
    rw [hfin.out]; exact ⟨rfl, rfl⟩
  · have hq : ((s.size : Int) == 0) = false := by simpa using h0
    by_cases h12 : 12 < s.size
    · have hfin := Lib.hid (isNm_long s.data.toList (by rw [Hsz.out]; exact h12))
      have hq2 : (12 : Int) < (s.size : Int) := by omega
      clear h0
      go_enter Tryd.func76, Tryd.ntmps76
      go_wp2_with fail
      go_ret
      rw [hfin.out]; exact ⟨rfl, rfl⟩
    · have hq2 : (s.size : Int) ≤ 12 := by omega
      have hp : 0 < s.data.toList.length := by rw [Hsz.out]; omega
      have Hp := Lib.hid hp
      go_enter Tryd.func76, Tryd.ntmps76
      go_wp2_with fail
      go_loop [15] (fun i => ∃ k : Nat, k ≤ s.size ∧ ((s.data.toList.take k).all fun c => okC c.toNat) = true ∧ (0 < k → smC (s.data.toList[0]'hp).toNat = true) ∧ i = .int .i64 k) (fun i => s.size - (intOf i).toNat)
      case atStart => exact ⟨0, Nat.zero_le _, rfl, by omega, rfl⟩
      case round =>
        obtain ⟨k, hk, hall, hfst, rfl⟩ := hrel
        have Hall := Lib.hid hall; clear hall
        have Hfst := Lib.hid hfst; clear hfst
        by_cases hlt : k < s.size
        · have hkl : k < s.data.toList.length := by rw [Hsz.out]; exact hlt
          have Hbad := Lib.hid (show okC s[k].toNat = false → isNm s.data.toList = false from fun h => isNm_bad s.data.toList k hkl h)
          have Hst := Lib.hid (show okC s[k].toNat = true → ((s.data.toList.take (k + 1)).all fun c => okC c.toNat) = true from fun h => all_step s.data.toList k hkl Hall.out h)
          have Hfk := Lib.hid (show smC s[k].toNat = true → smC (s.data.toList[0]'hp).toNat = true from fun h => by
            by_cases hk0 : k = 0
            · subst hk0; exact h
            · exact Hfst.out (by omega))
          have Hf0 := Lib.hid (show k = 0 → smC s[k].toNat = false → isNm s.data.toList = false from fun h h2 => isNm_first s.data.toList hp (by subst h; exact h2))
          have hx8 := s[k].toNat_lt
          have hx9 : (s[k].toNat : Int) < 256 := by omega
          have HD := Lib.hid (fun wx => isDigit_any s[k].toNat wx)
          clear hx8
          have hlt' : (k : Int) < (s.size : Int) := by omega
          by_cases hk0 : k = 0
          · have hqk : ((k : Int) == 0) = true := by simp [hk0]
            rcases chr_cases s[k].toNat with ⟨c1, c2, c3⟩ | ⟨c1, c2, c3, c4⟩ | ⟨c1, c2, c3⟩ | ⟨c1, c2, c3, c4⟩ | ⟨c1, c2, c3, c4⟩
            · have hst := Lib.hid (Hst.out (okC_sm c1))
              have hf := Lib.hid (Hfk.out c1)
              clear Hbad Hst Hfk Hf0 c1 hk0
              have d1 : (97 : Int) ≤ (s[k].toNat : Int) := by omega
              have d2 : (s[k].toNat : Int) ≤ 122 := by omega
              go_wp2_with fail
              go_round
              case rel => exact ⟨k + 1, by omega, hst.out, fun _ => hf.out, by go_num⟩
              case measure => simp [intOf]; omega
            all_goals
              have hfin := Lib.hid (Hf0.out hk0 c1)
              clear Hbad Hst Hfk Hf0 c1 c2 hk0
              rcases Nat.lt_or_ge s[k].toNat 97 with d0 | d0
              · first
                | (exfalso; omega)
                | (have d1 : (s[k].toNat : Int) < 97 := by omega
                   go_wp2_with fail
                   go_ret
                   rw [hfin.out]; exact ⟨rfl, rfl⟩)
              · first
                | (exfalso; omega)
                | (have d1 : (97 : Int) ≤ (s[k].toNat : Int) := by omega
                   have d2 : decide ((s[k].toNat : Int) ≤ 122) = false := by rw [decide_eq_false_iff_not]; omega
                   go_wp2_with fail
                   go_ret
                   rw [hfin.out]; exact ⟨rfl, rfl⟩)
          · have hqk : ((k : Int) == 0) = false := by simpa using hk0
            have hf := Lib.hid (Hfst.out (by omega))
            rcases chr_cases s[k].toNat with ⟨c1, c2, c3⟩ | ⟨c1, c2, c3, c4⟩ | ⟨c1, c2, c3⟩ | ⟨c1, c2, c3, c4⟩ | ⟨c1, c2, c3, c4⟩
            · have hst := Lib.hid (Hst.out (okC_sm c1))
              clear Hbad Hst Hfk Hf0 c1 hk0
              have d1 : (97 : Int) ≤ (s[k].toNat : Int) := by omega
              have d2 : (s[k].toNat : Int) ≤ 122 := by omega
              go_wp2_with fail
              go_round
              case rel => exact ⟨k + 1, by omega, hst.out, fun _ => hf.out, by go_num⟩
              case measure => simp [intOf]; omega
            · have hst := Lib.hid (Hst.out (okC_dg c2))
              rw [c2] at HD
              clear Hbad Hst Hfk Hf0 c1 c2 hk0
              have d1 : (s[k].toNat : Int) < 97 := by omega
              have d3 : ((s[k].toNat : Int) != 45) = true := by rw [bne_iff_ne]; omega
              go_wp2_with fail
              refine (HD.out _).mono ?_; rintro e w1 ⟨rfl, rfl⟩
              go_wp2_with fail
              go_round
              case rel => exact ⟨k + 1, by omega, hst.out, fun _ => hf.out, by go_num⟩
              case measure => simp [intOf]; omega
            · have hst := Lib.hid (Hst.out (okC_da c3))
              clear Hbad Hst Hfk Hf0 c1 c2 hk0
              have d1 : (s[k].toNat : Int) < 97 := by omega
              have d3 : ((s[k].toNat : Int) != 45) = false := by simp [c3]
              clear c3
              go_wp2_with fail
              go_round
              case rel => exact ⟨k + 1, by omega, hst.out, fun _ => hf.out, by go_num⟩
              case measure => simp [intOf]; omega
            · have hfin := Lib.hid (Hbad.out (okC_no c1 c2 c3))
              rw [c2] at HD
              have d1 : (s[k].toNat : Int) < 97 := by omega
              have d3 : ((s[k].toNat : Int) != 45) = true := by rw [bne_iff_ne]; omega
              clear Hbad Hst Hfk Hf0 c1 c2 c3 hk0
              go_wp2_with fail
              refine (HD.out _).mono ?_; rintro e w1 ⟨rfl, rfl⟩
              go_wp2_with fail
              go_ret
              rw [hfin.out]; exact ⟨rfl, rfl⟩
            · have hfin := Lib.hid (Hbad.out (okC_no c1 c2 c3))
              rw [c2] at HD
              have d1 : (97 : Int) ≤ (s[k].toNat : Int) := by omega
              have d2 : decide ((s[k].toNat : Int) ≤ 122) = false := by rw [decide_eq_false_iff_not]; omega
              have d3 : ((s[k].toNat : Int) != 45) = true := by rw [bne_iff_ne]; omega
              clear Hbad Hst Hfk Hf0 c1 c2 c3 hk0
              go_wp2_with fail
              refine (HD.out _).mono ?_; rintro e w1 ⟨rfl, rfl⟩
              go_wp2_with fail
              go_ret
              rw [hfin.out]; exact ⟨rfl, rfl⟩
        · have hfin := Lib.hid (show isNm s.data.toList = true from isNm_yes _ hp (by rw [Hsz.out]; omega) (Hfst.out (by omega)) (by
            have := Hall.out
            rwa [List.take_of_length_le (by rw [Hsz.out]; omega)] at this))
          have hlt' : (s.size : Int) ≤ (k : Int) := by omega
          go_wp2_with fail
          go_ret
          rw [hfin.out]; exact ⟨rfl, rfl⟩
end Go.Proofs.YtepgfcjfdnakbaaDoor
/- Names, part 3: the reference's IsName. -/
namespace Go.Proofs.YtepgfcjfdnakbaaDoor
open Go.RowKit Go.Joins

theorem toList_ne {s : ByteArray} (h : s.size ≠ 0) : s.toList.isEmpty = false := by
  cases hs : s.toList.isEmpty with
  | false => rfl
  | true =>
    have h1 : s.toList = [] := by simpa using hs
    have h2 := congrArg List.length h1
    rw [ByteArray.toList_eq] at h2
    simp at h2
    exact absurd h2 (by simpa using h)

set_option maxRecDepth 100000 in
set_option maxHeartbeats 1600000 in
theorem IsNameS_any (s : ByteArray) (w : World) (hs : s.size ≤ 1048576) :
    Calls Tryd.prog 98 #[.string s] w fun e w' => e = .returned (.bool (isNm s.data.toList)) ∧ w = w' := by
  have hsz : s.data.toList.length = s.size := by simp
  have Hsz := Lib.hid hsz; clear hsz
  by_cases h0 : s.size = 0
  · obtain rfl : s = ⟨#[]⟩ := by
      obtain ⟨⟨l⟩⟩ := s
      have : l = [] := List.eq_nil_of_length_eq_zero h0
      rw [this]
    clear h0
    go_enter Tryd.func98, Tryd.ntmps98
    go_wp2_with fail
    go_ret
    exact ⟨rfl, rfl⟩
  · have he := toList_ne h0
    have hp : 0 < s.data.toList.length := by rw [Hsz.out]; omega
    have hp0 : 0 < s.size := by omega
    have hp1 : (0 : Int) < (s.size : Int) := by omega
    by_cases h12 : 12 < s.size
    · have hfin := Lib.hid (isNm_long s.data.toList (by rw [Hsz.out]; exact h12))
      have hq2 : (12 : Int) < (s.size : Int) := by omega
      clear h0
      go_enter Tryd.func98, Tryd.ntmps98
      go_wp2_with fail
      go_ret
      rw [hfin.out]; exact ⟨rfl, rfl⟩
    · have hq2 : (s.size : Int) ≤ 12 := by omega
      have HS := Lib.hid (fun wx => l01Small_any s[0].toNat wx)
      have hx8 := s[0].toNat_lt
      cases hsm : smC s[0].toNat with
      | false =>
        have hfin := Lib.hid (isNm_first s.data.toList hp hsm)
        rw [hsm] at HS
        clear hsm h0
        go_enter Tryd.func98, Tryd.ntmps98
        go_wp2_with fail
        refine (HS.out _).mono ?_; rintro e w1 ⟨rfl, rfl⟩
        go_wp2_with fail
        go_ret
        rw [hfin.out]; exact ⟨rfl, rfl⟩
      | true =>
        have Hyes := Lib.hid (fun h => isNm_yes s.data.toList hp (by rw [Hsz.out]; omega) hsm h)
        rw [hsm] at HS
        clear hsm h0
        go_enter Tryd.func98, Tryd.ntmps98
        go_wp2_with fail
        refine (HS.out _).mono ?_; rintro e w1 ⟨rfl, rfl⟩
        go_wp2_with fail
        go_loop [3] (fun i => ∃ k : Nat, k ≤ s.size ∧ ((s.data.toList.take k).all fun c => okC c.toNat) = true ∧ i = .int .i64 k) (fun i => s.size - (intOf i).toNat)
        case atStart => exact ⟨0, Nat.zero_le _, rfl, rfl⟩
        case round =>
          obtain ⟨k, hk, hall, rfl⟩ := hrel
          have Hall := Lib.hid hall; clear hall
          by_cases hlt : k < s.size
          · have hkl : k < s.data.toList.length := by rw [Hsz.out]; exact hlt
            have Hbad := Lib.hid (show okC s[k].toNat = false → isNm s.data.toList = false from fun h => isNm_bad s.data.toList k hkl h)
            have Hst := Lib.hid (show okC s[k].toNat = true → ((s.data.toList.take (k + 1)).all fun c => okC c.toNat) = true from fun h => all_step s.data.toList k hkl Hall.out h)
            have hx8 := s[k].toNat_lt
            have hx9 : (s[k].toNat : Int) < 256 := by omega
            have HC := Lib.hid (fun wx => l01Small_any s[k].toNat wx)
            have HD := Lib.hid (fun wx => l01Digit_any s[k].toNat wx)
            clear hx8
            have hlt' : (k : Int) < (s.size : Int) := by omega
            cases c1 : smC s[k].toNat with
            | true =>
              have hst := Lib.hid (Hst.out (okC_sm c1))
              rw [c1] at HC
              clear Hbad Hst c1
              go_wp2_with fail
              refine (HC.out _).mono ?_; rintro e w1 ⟨rfl, rfl⟩
              go_wp2_with fail
              go_round
              case rel => exact ⟨k + 1, by omega, hst.out, by go_num⟩
              case measure => simp [intOf]; omega
            | false =>
              rw [c1] at HC
              cases c2 : dgC s[k].toNat with
              | true =>
                have hst := Lib.hid (Hst.out (okC_dg c2))
                rw [c2] at HD
                clear Hbad Hst c1 c2
                go_wp2_with fail
                refine (HC.out _).mono ?_; rintro e w1 ⟨rfl, rfl⟩
                go_wp2_with fail
                refine (HD.out _).mono ?_; rintro e w1 ⟨rfl, rfl⟩
                go_wp2_with fail
                go_round
                case rel => exact ⟨k + 1, by omega, hst.out, by go_num⟩
                case measure => simp [intOf]; omega
              | false =>
                rw [c2] at HD
                by_cases c3 : s[k].toNat = 45
                · have hst := Lib.hid (Hst.out (okC_da c3))
                  have d3 : ((s[k].toNat : Int) != 45) = false := by simp [c3]
                  clear Hbad Hst c1 c2 c3
                  go_wp2_with fail
                  refine (HC.out _).mono ?_; rintro e w1 ⟨rfl, rfl⟩
                  go_wp2_with fail
                  refine (HD.out _).mono ?_; rintro e w1 ⟨rfl, rfl⟩
                  go_wp2_with fail
                  go_round
                  case rel => exact ⟨k + 1, by omega, hst.out, by go_num⟩
                  case measure => simp [intOf]; omega
                · have hfin := Lib.hid (Hbad.out (okC_no c1 c2 c3))
                  have d3 : ((s[k].toNat : Int) != 45) = true := by rw [bne_iff_ne]; omega
                  clear Hbad Hst c1 c2 c3
                  go_wp2_with fail
                  refine (HC.out _).mono ?_; rintro e w1 ⟨rfl, rfl⟩
                  go_wp2_with fail
                  refine (HD.out _).mono ?_; rintro e w1 ⟨rfl, rfl⟩
                  go_wp2_with fail
                  go_ret
                  rw [hfin.out]; exact ⟨rfl, rfl⟩
          · have hfin := Lib.hid (Hyes.out (by
              have := Hall.out
              rwa [List.take_of_length_le (by rw [Hsz.out]; omega)] at this))
            have hlt' : (s.size : Int) ≤ (k : Int) := by omega
            go_wp2_with fail
            go_ret
            rw [hfin.out]; exact ⟨rfl, rfl⟩
end Go.Proofs.YtepgfcjfdnakbaaDoor
/- Lists of texts: equality on three functions, the room that they take, copies. -/
namespace Go.Proofs.YtepgfcjfdnakbaaDoor
open Go.RowKit Go.Joins

def strs (l : List ByteArray) : List Value := l.map Value.string
theorem strs_at (l : List ByteArray) (k : Nat) (h : k < l.length) : (strs l)[k]? = some (.string l[k]) := by simp [strs, h]
theorem infoSL : (Tryd.prog.info? 9).map (fun i => (i.zero, i.size, i.bytes)) = some (some (.string ⟨#[]⟩), 1, 16) := by kernel_rfl
theorem take_strs (zs : List ByteArray) (k : Nat) (h : k < zs.length) : strs (zs.take k) ++ [.string zs[k]] = strs (zs.take (k + 1)) := by
  rw [List.take_succ_eq_append_getElem h]; unfold strs; rw [List.map_append]; rfl
theorem rd_at {w : World} {B n c : Nat} {A : Option Addr} {zs : List ByteArray} (h : Rd w B (.slice A n c) zs.length 1 (strs zs)) (k : Nat) (hk : k < zs.length) :
    n = zs.length ∧ ∃ b off, A = some ⟨b, off, none⟩ ∧ w.cell? ⟨b, off + k, none⟩ = some (.string zs[k]) := by
  obtain ⟨_, A', c', hv, hc⟩ := h
  injection hv with e1 e2 e3
  subst e1
  obtain ⟨b, off, hA, _, hcc⟩ := hc (by omega)
  exact ⟨e2, b, off, hA, hcc k _ (strs_at zs k hk)⟩

/-- a new list of the same strings -/
def RetS (w : World) (zs : List ByteArray) (e : Ending) (w' : World) : Prop := ∃ v, e = .returned v ∧ w'.ownsRow w.heap.size 9 1 v zs.length (strs zs) ∧ Below w.heap.size w w'

end Go.Proofs.YtepgfcjfdnakbaaDoor
/- What a law's arguments read as, in the words of the walks: slices of numbers, of bytes. -/
namespace Go.Proofs.YtepgfcjfdnakbaaDoor
open Go.ChangeShapes Go.WideShapes Go.ChangeAt Go.RowKit

section
variable {H : Type} {enc : TypeId × Value → H} {P : Program} {W : World}

theorem rd_ints {T E base : Nat} {k : IntKind} {r : Reach} {v : Value} {d : DataW H} {p : List MemPlace} (hT : P.underlying T = some (.slice E)) (hE : P.underlying E = some (.int k)) (hC : P.cellsOf E = 1)
    (ok : Value.okWide P W r base T v) (h : DataW.Trod enc P W 0 (fun _ => true) true T v d p) :
    ∃ zs : List Int, Rd W W.heap.size v zs.length 1 (zs.map (.int k)) ∧ zs.length ≤ maxLen ∧ ∀ z ∈ zs, (Lit.int k z).wf = true := by
  obtain ⟨a0, len, cap, rfl⟩ := okWide_slice hT ok
  obtain ⟨fuel, hf⟩ := h
  rcases open_ints hT hE hC hf with ⟨hcs, hx⟩ | ⟨a, len', cap', zs, hcs, _, hl, hm, hz, hx, hcell, hwz⟩
  · simp [Value.cells] at hcs
    obtain ⟨rfl, rfl, rfl⟩ := hcs
    exact ⟨[], ⟨rfl, none, 0, rfl, fun h => by simp at h⟩, by simp [maxLen], by simp⟩
  · simp [Value.cells] at hcs
    obtain ⟨rfl, rfl, rfl⟩ := hcs
    have hz' : zs.length = cap := by simpa using hz
    have hlen : (zs.take len).length = len := by rw [List.length_take]; omega
    refine ⟨zs.take len, ?_, by rw [hlen]; omega, fun z hzz => hwz z (List.mem_of_mem_take hzz)⟩
    rw [hlen]
    refine ⟨by simp; omega, some a, cap, rfl, fun hn => ?_⟩
    obtain ⟨b, off, rfl, hc⟩ := ints_at hcell (by omega)
    refine ⟨b, off, rfl, World.block_lt_of_cell? W _ (hc 0 (by omega)), fun i u hu => ?_⟩
    have hi : i < len := by
      have := (List.getElem?_eq_some_iff.1 hu).1
      simp at this; omega
    rw [hc i (by omega), ← hu]
    simp [hi, List.getD, (show i < zs.length by omega)]

theorem rd_bytes {T E base : Nat} {r : Reach} {v : Value} {d : DataW H} {p : List MemPlace} (hT : P.underlying T = some (.slice E)) (hE : P.underlying E = some (.int .u8)) (hC : P.cellsOf E = 1)
    (ok : Value.okWide P W r base T v) (h : DataW.Trod enc P W 0 (fun _ => true) true T v d p) :
    ∃ bs : List UInt8, Rd W W.heap.size v bs.length 1 (bs.map byV) ∧ bs.length ≤ maxLen := by
  obtain ⟨zs, h1, h2, h3⟩ := rd_ints hT hE hC ok h
  refine ⟨zs.map fun z => UInt8.ofNat z.toNat, ?_, by simpa using h2⟩
  have e : (zs.map fun z => UInt8.ofNat z.toNat).map byV = zs.map (.int .u8) := by
    rw [List.map_map]
    refine List.map_congr_left fun z hz => ?_
    have hb := bounds_u8 (h3 z hz)
    simp only [Function.comp, byV, UInt8.toNat_ofNat']
    congr 1
    omega
  rw [e]
  simpa using h1
end
end Go.Proofs.YtepgfcjfdnakbaaDoor
/- What a law's arguments read as: slices of structs, as rows of cells. -/
namespace Go.Proofs.YtepgfcjfdnakbaaDoor
open Go.ChangeShapes Go.WideShapes Go.ChangeAt Go.RowKit

/-- rows of equal width: cell j of row k -/
theorem flat_at {α : Type} (cells : α → List Value) (sz : Nat) (hc : ∀ x, (cells x).length = sz) : ∀ (xs : List α) (k j : Nat) (hk : k < xs.length), j < sz → (xs.flatMap cells)[k * sz + j]? = (cells xs[k])[j]?
  | [], k, j, hk, _ => by simp at hk
  | x :: xs, 0, j, _, hj => by
    rw [List.flatMap_cons, Nat.zero_mul, Nat.zero_add, List.getElem?_append_left (by rw [hc]; exact hj)]; rfl
  | x :: xs, k + 1, j, hk, hj => by
    rw [List.flatMap_cons, List.getElem?_append_right (by rw [hc, Nat.succ_mul]; omega), hc]
    have e : (k + 1) * sz + j - sz = k * sz + j := by rw [Nat.succ_mul]; omega
    rw [e, flat_at cells sz hc xs k j (by simpa using hk) hj]
    simp
theorem flat_len {α : Type} (cells : α → List Value) (sz : Nat) (hc : ∀ x, (cells x).length = sz) : ∀ xs : List α, (xs.flatMap cells).length = xs.length * sz
  | [] => by simp
  | x :: xs => by
    rw [List.flatMap_cons, List.length_append, hc, flat_len cells sz hc xs, List.length_cons, Nat.succ_mul]; omega

section
variable {H : Type} {enc : TypeId × Value → H} {P : Program} {W : World}

theorem rd_rows {α : Type} (cells : α → List Value) (good : α → Prop) {T E base sz : Nat} {r : Reach} {v : Value} {d : DataW H} {p : List MemPlace} (hT : P.underlying T = some (.slice E)) (hC : P.cellsOf E = sz) (hsz : 0 < sz) (hc : ∀ x, (cells x).length = sz)
    (elem : ∀ n cs y, DataW.trod enc P W 0 (fun _ => true) true n E cs = some y → ∃ x, cs = cells x ∧ good x)
    (ok : Value.okWide P W r base T v) (h : DataW.Trod enc P W 0 (fun _ => true) true T v d p) :
    ∃ xs : List α, Rd W W.heap.size v xs.length sz (xs.flatMap cells) ∧ xs.length ≤ maxLen ∧ ∀ x ∈ xs, good x := by
  obtain ⟨a0, len, cap, rfl⟩ := okWide_slice hT ok
  obtain ⟨fuel, hf⟩ := h
  rcases Go.Deep.open_slice hT hf with ⟨hcs, hx⟩ | ⟨a, len', cap', m, n, D, Pl, hcs, _, hl, hm, hmm, hx, hi⟩
  · simp [Value.cells] at hcs
    obtain ⟨rfl, rfl, rfl⟩ := hcs
    exact ⟨[], ⟨by simp, none, 0, rfl, fun h => by simp at h⟩, by simp [maxLen], by simp⟩
  · simp [Value.cells] at hcs
    obtain ⟨rfl, rfl, rfl⟩ := hcs
    have hm' : m = cap := by simpa using hmm
    subst hm'
    have hel : ∀ i : Nat, i < m → ∃ x, good x ∧ W.cells? 0 (a.add (i * sz)) sz = some (cells x) := fun i hi' => by
      obtain ⟨cs', h1, h2⟩ := hi i hi'
      obtain ⟨x, rfl, hg⟩ := elem _ _ _ h2
      rw [hC] at h1
      exact ⟨x, hg, h1⟩
    have hch : ∃ f : Fin len → α, ∀ i : Fin len, good (f i) ∧ W.cells? 0 (a.add (i * sz)) sz = some (cells (f i)) :=
      ⟨fun i => Classical.choose (hel i (by have := i.2; omega)), fun i => Classical.choose_spec (hel i (by have := i.2; omega))⟩
    obtain ⟨f, hff⟩ := hch
    have hlen : (List.ofFn f).length = len := List.length_ofFn
    refine ⟨List.ofFn f, ?_, by rw [hlen]; omega, fun x hx => ?_⟩
    · rw [hlen]
      refine ⟨by rw [flat_len cells sz hc, hlen], some a, m, rfl, fun hn => ?_⟩
      have hl0 : 0 < len := by
        rcases Nat.eq_zero_or_pos len with h | h
        · subst h; simp at hn
        · exact h
      have hcell : ∀ (k : Nat) (hk : k < len) (j : Nat), j < sz → W.cell? ((a.add (k * sz)).add j) = (cells (f ⟨k, hk⟩))[j]? := fun k hk j hj =>
        (World.cells?_some (hff ⟨k, hk⟩).2).2.2 j hj
      obtain ⟨b, off, spot⟩ := a
      have h00 := hcell 0 hl0 0 hsz
      rw [List.getElem?_eq_getElem (by rw [hc]; exact hsz)] at h00
      have hspot : spot = none := by simpa [Addr.add] using World.cell?_spot h00
      subst hspot
      have hadd : ∀ k j, ((⟨b, off, none⟩ : Addr).add (k * sz)).add j = ⟨b, off + (k * sz + j), none⟩ := fun k j => by
        rw [Go.WideShapes.add_plain, Go.WideShapes.add_plain, Nat.add_assoc]
      rw [hadd] at h00
      refine ⟨b, off, rfl, World.block_lt_of_cell? W _ h00, fun i u hu => ?_⟩
      have hil : i < len * sz := by
        have := (List.getElem?_eq_some_iff.1 hu).1
        rwa [flat_len cells sz hc, hlen] at this
      have hk : i / sz < len := by rw [Nat.div_lt_iff_lt_mul hsz]; exact hil
      have hj : i % sz < sz := Nat.mod_lt _ hsz
      have hdm : i / sz * sz + i % sz = i := by rw [Nat.mul_comm]; exact Nat.div_add_mod i sz
      have h1 := hcell (i / sz) hk (i % sz) hj
      rw [hadd, hdm] at h1
      have h2 := flat_at cells sz hc (List.ofFn f) (i / sz) (i % sz) (by rw [hlen]; exact hk) hj
      rw [hdm, List.getElem_ofFn] at h2
      rw [h1, ← h2, hu]
    · obtain ⟨i, rfl⟩ := List.mem_ofFn.1 hx
      exact (hff i).1
end
end Go.Proofs.YtepgfcjfdnakbaaDoor
/- Entries, part 1: how lists of entries lie; the exact laws' helpers. -/
namespace Go.Proofs.YtepgfcjfdnakbaaDoor
open Go.RowKit Go.Joins

structure Ent where
  num : Int
  name : ByteArray
  maker : ByteArray
  year : Int
  words : List ByteArray
deriving DecidableEq

/-- an entry's cells; the second part is the value of its words -/
def cellsE (x : Ent × Value) : List Value := [.int .i64 x.1.num, .string x.1.name, .string x.1.maker, .int .i64 x.1.year, x.2]
def RdW (w : World) (B : Nat) (y : Ent × Value) : Prop := Rd w B y.2 y.1.words.length 1 (strs y.1.words)
/-- THE READING OF A LIST OF ENTRIES -/
def RdE (w : World) (B : Nat) (v : Value) (xs : List Ent) : Prop :=
  ∃ ys : List (Ent × Value), ys.map (·.1) = xs ∧ Rd w B v xs.length 5 (ys.flatMap cellsE) ∧ ∀ y ∈ ys, RdW w B y
theorem RdE.below {w w' : World} {B : Nat} {v : Value} {xs : List Ent} (h : RdE w B v xs) (hb : Below B w w') : RdE w' B v xs := by
  obtain ⟨ys, h1, h2, h3⟩ := h
  exact ⟨ys, h1, h2.below hb, fun y hy => (h3 y hy).below hb⟩
theorem RdE.more {w : World} {B B' : Nat} {v : Value} {xs : List Ent} (h : RdE w B v xs) (hB : B ≤ B') : RdE w B' v xs := by
  obtain ⟨ys, h1, h2, h3⟩ := h
  exact ⟨ys, h1, h2.more hB, fun y hy => (h3 y hy).more hB⟩
theorem RdE.next {w w' : World} {v : Value} {xs : List Ent} (h : RdE w w.heap.size v xs) (hb : Below w.heap.size w w') : RdE w' w'.heap.size v xs := (h.below hb).more hb.size
theorem RdE.drewN {w : World} {B : Nat} {v : Value} {xs : List Ent} (h : RdE w B v xs) (n : Nat) : RdE (w.drewN n) B v xs := h
theorem RdE.slice {w : World} {B : Nat} {v : Value} {xs : List Ent} (h : RdE w B v xs) : ∃ A c, v = .slice A xs.length c := by
  obtain ⟨ys, h1, ⟨_, A, c, h2, _⟩, h3⟩ := h
  exact ⟨A, c, h2⟩

/-- the five cells of an entry -/
structure EntAt (w : World) (B b o : Nat) (x : Ent) (A : Option Addr) (c : Nat) : Prop where
  lt : b < B
  c0 : w.cell? ⟨b, o, none⟩ = some (.int .i64 x.num)
  c1 : w.cell? ⟨b, o + 1, none⟩ = some (.string x.name)
  c2 : w.cell? ⟨b, o + 2, none⟩ = some (.string x.maker)
  c3 : w.cell? ⟨b, o + 3, none⟩ = some (.int .i64 x.year)
  c4 : w.cell? ⟨b, o + 4, none⟩ = some (.slice A x.words.length c)
  words : Rd w B (.slice A x.words.length c) x.words.length 1 (strs x.words)
theorem EntAt.below {w w' : World} {B b o c : Nat} {x : Ent} {A : Option Addr} (h : EntAt w B b o x A c) (hb : Below B w w') : EntAt w' B b o x A c :=
  ⟨h.lt, (hb.cell (p := ⟨b, o, none⟩) h.lt).trans h.c0, (hb.cell (p := ⟨b, o + 1, none⟩) h.lt).trans h.c1, (hb.cell (p := ⟨b, o + 2, none⟩) h.lt).trans h.c2, (hb.cell (p := ⟨b, o + 3, none⟩) h.lt).trans h.c3, (hb.cell (p := ⟨b, o + 4, none⟩) h.lt).trans h.c4, h.words.below hb⟩
theorem EntAt.drewN {w : World} {B b o c : Nat} {x : Ent} {A : Option Addr} (h : EntAt w B b o x A c) (n : Nat) : EntAt (w.drewN n) B b o x A c := ⟨h.1, h.2, h.3, h.4, h.5, h.6, h.7⟩

theorem RdE.at {w : World} {B n c : Nat} {A : Option Addr} {xs : List Ent} (h : RdE w B (.slice A n c) xs) (k : Nat) (hk : k < xs.length) :
    ∃ b off A' c', A = some ⟨b, off, none⟩ ∧ EntAt w B b (off + k * 5) xs[k] A' c' := by
  obtain ⟨ys, h1, ⟨_, A0, c0, hv, hc⟩, h3⟩ := h
  subst h1
  injection hv with e1 e2 e3
  subst e1
  rw [List.length_map] at hk hc
  obtain ⟨b, off, hA, hb, hcc⟩ := hc (by omega)
  have hw := h3 ys[k] (List.getElem_mem hk)
  obtain ⟨_, A', c', hv', _⟩ := id hw
  have hx : (ys.map (·.1))[k]'(by simpa using hk) = ys[k].1 := by simp
  rw [hx]
  have hat : ∀ j u, j < 5 → (cellsE ys[k])[j]? = some u → w.cell? ⟨b, off + k * 5 + j, none⟩ = some u := fun j u hj hu => by
    have := hcc (k * 5 + j) u ((flat_at cellsE 5 (fun _ => rfl) ys k j hk hj).trans hu)
    rwa [← Nat.add_assoc] at this
  refine ⟨b, off, A', c', hA, ⟨hb, hat 0 _ (by omega) rfl, hat 1 _ (by omega) rfl, hat 2 _ (by omega) rfl, hat 3 _ (by omega) rfl, ?_, ?_⟩⟩
  · rw [← hv']; exact hat 4 _ (by omega) rfl
  · rw [← hv']; exact hw

/-- five cells of a block that is the call's own -/
theorem blk5 {w : World} {g : Nat} {a b c d e : Value} {t : TypeId} (h : w.heap[g]? = some (.cells #[a, b, c, d, e] t (0, 0))) :
    w.cell? ⟨g, 0, none⟩ = some a ∧ w.cell? ⟨g, 1, none⟩ = some b ∧ w.cell? ⟨g, 2, none⟩ = some c ∧ w.cell? ⟨g, 3, none⟩ = some d ∧ w.cell? ⟨g, 4, none⟩ = some e ∧ ∀ i, w.frozen? ⟨g, i, none⟩ = false := by
  refine ⟨?_, ?_, ?_, ?_, ?_, fun i => ?_⟩
  · rw [cell_of_row w g 0 _ _ _ h]; rfl
  · rw [cell_of_row w g 1 _ _ _ h]; rfl
  · rw [cell_of_row w g 2 _ _ _ h]; rfl
  · rw [cell_of_row w g 3 _ _ _ h]; rfl
  · rw [cell_of_row w g 4 _ _ _ h]; rfl
  · exact frozen_of_row w g i _ _ h

end Go.Proofs.YtepgfcjfdnakbaaDoor
/- Entries, part 2: copies, equality and room of lists of entries; the reading of an argument. -/
namespace Go.Proofs.YtepgfcjfdnakbaaDoor
open Go.RowKit Go.Joins

theorem set5 (l r : List Value) (n : Nat) (hn : l.length = n) (hr : 5 ≤ r.length) (a b c d e : Value) :
    (((((l ++ r).set n a).set (n + 1) b).set (n + 2) c).set (n + 3) d).set (n + 4) e = (l ++ [a, b, c, d, e]) ++ r.drop 5 := by
  subst hn
  match r, hr with
  | x0 :: x1 :: x2 :: x3 :: x4 :: r, _ =>
    rw [List.set_append_right _ _ (Nat.le_refl _), List.set_append_right _ _ (by omega), List.set_append_right _ _ (by omega), List.set_append_right _ _ (by omega), List.set_append_right _ _ (by omega)]
    simp

theorem Rd.of_own' {w : World} {base : Nat} {e : TypeId} {sz n : Nat} {v : Value} {cs : List Value} (h : w.ownsRow base e sz v n cs) : Rd w w.heap.size v n sz cs := Rd.of_own h

end Go.Proofs.YtepgfcjfdnakbaaDoor
/- Entries, part 3: equality and room of entries; the reading of an argument. -/
namespace Go.Proofs.YtepgfcjfdnakbaaDoor
open Go.RowKit Go.Joins

/-- an entry as a value -/
abbrev aggE (x : Ent) (A : Option Addr) (c : Nat) : Value := .agg #[.int .i64 x.num, .string x.name, .string x.maker, .int .i64 x.year, .slice A x.words.length c]

/-- the ten cells of two entries -/
theorem EntAt.ten {w : World} {B1 B2 b1 o1 b2 o2 c1 c2 : Nat} {x y : Ent} {A1 A2 : Option Addr} (h : EntAt w B1 b1 o1 x A1 c1) (k : EntAt w B2 b2 o2 y A2 c2) :
    w.cell? ⟨b1, o1, none⟩ = some (.int .i64 x.num) ∧ w.cell? ⟨b1, o1 + 1, none⟩ = some (.string x.name) ∧ w.cell? ⟨b1, o1 + 2, none⟩ = some (.string x.maker) ∧ w.cell? ⟨b1, o1 + 3, none⟩ = some (.int .i64 x.year) ∧ w.cell? ⟨b1, o1 + 4, none⟩ = some (.slice A1 x.words.length c1) ∧
    w.cell? ⟨b2, o2, none⟩ = some (.int .i64 y.num) ∧ w.cell? ⟨b2, o2 + 1, none⟩ = some (.string y.name) ∧ w.cell? ⟨b2, o2 + 2, none⟩ = some (.string y.maker) ∧ w.cell? ⟨b2, o2 + 3, none⟩ = some (.int .i64 y.year) ∧ w.cell? ⟨b2, o2 + 4, none⟩ = some (.slice A2 y.words.length c2) :=
  ⟨h.c0, h.c1, h.c2, h.c3, h.c4, k.c0, k.c1, k.c2, k.c3, k.c4⟩

/-- all that an argument's entries are -/
def lenE (x : Ent) : Prop := x.name.size ≤ maxLen ∧ x.maker.size ≤ maxLen ∧ x.words.length ≤ maxLen ∧ ∀ z ∈ x.words, z.size ≤ maxLen
/-- small enough -/
def smE (x : Ent) : Prop := x.name.size ≤ 1048576 ∧ x.maker.size ≤ 1048576 ∧ x.words.length ≤ 1048576 ∧ ∀ z ∈ x.words, z.size ≤ 1048576
def SzE (x : Ent) (left : Int) (w : World) (e : Ending) (w' : World) : Prop := ∃ r : Int, e = .returned (.int .i64 r) ∧ r ≤ left ∧ (0 ≤ r → smE x) ∧ Below w.heap.size w w'

def SzEs (xs : List Ent) (left : Int) (w : World) (e : Ending) (w' : World) : Prop := ∃ r : Int, e = .returned (.int .i64 r) ∧ r ≤ left ∧ (0 ≤ r → xs.length ≤ 1048576 ∧ ∀ x ∈ xs, smE x) ∧ Below w.heap.size w w'
end Go.Proofs.YtepgfcjfdnakbaaDoor
/- Entries, part 4: SameEntries on both sides. -/
namespace Go.Proofs.YtepgfcjfdnakbaaDoor
open Go.RowKit Go.Joins

/-- where two entries part first -/
theorem ent_cases (x y : Ent) : x = y ∨
    (x ≠ y ∧ ((x.num != y.num) = true ∨ (x.num = y.num ∧ (x.name.toList != y.name.toList) = true ∧ (x.name.toList == y.name.toList) = false) ∨ (x.num = y.num ∧ x.name = y.name ∧ (x.maker.toList != y.maker.toList) = true ∧ (x.maker.toList == y.maker.toList) = false) ∨
      (x.num = y.num ∧ x.name = y.name ∧ x.maker = y.maker ∧ (x.year != y.year) = true) ∨ (x.num = y.num ∧ x.name = y.name ∧ x.maker = y.maker ∧ x.year = y.year ∧ decide (x.words = y.words) = false))) := by
  have hbn : ∀ a b : ByteArray, a ≠ b → (a.toList != b.toList) = true ∧ (a.toList == b.toList) = false := fun a b h =>
    ⟨bne_iff_ne.2 fun e => h (ba_inj e), beq_eq_false_iff_ne.2 fun e => h (ba_inj e)⟩
  by_cases h : x = y
  · exact .inl h
  · refine .inr ⟨h, ?_⟩
    by_cases h1 : x.num = y.num
    · by_cases h2 : x.name = y.name
      · by_cases h3 : x.maker = y.maker
        · by_cases h4 : x.year = y.year
          · refine .inr (.inr (.inr (.inr ⟨h1, h2, h3, h4, ?_⟩)))
            rw [decide_eq_false_iff_not]
            intro h5
            exact h (by obtain ⟨a, b, c, d, e⟩ := x; obtain ⟨a', b', c', d', e'⟩ := y; simp_all)
          · exact .inr (.inr (.inr (.inl ⟨h1, h2, h3, bne_iff_ne.2 h4⟩)))
        · exact .inr (.inr (.inl ⟨h1, h2, hbn _ _ h3⟩))
      · exact .inr (.inl ⟨h1, hbn _ _ h2⟩)
    · exact .inl (bne_iff_ne.2 h1)

theorem ents_bad {xs ys : List Ent} (k : Nat) (hx : k < xs.length) (hy : k < ys.length) (h : xs[k] ≠ ys[k]) : decide (xs = ys) = false := by
  rw [decide_eq_false_iff_not]
  intro e
  subst e
  exact h rfl
theorem ents_step {xs ys : List Ent} (k : Nat) (hx : k < xs.length) (hy : k < ys.length) (h0 : xs.take k = ys.take k) (h : xs[k] = ys[k]) : xs.take (k + 1) = ys.take (k + 1) := by
  rw [List.take_succ_eq_append_getElem hx, List.take_succ_eq_append_getElem hy, h0, h]

end Go.Proofs.YtepgfcjfdnakbaaDoor
/- Trains, part 1: ratios in plain words. -/
namespace Go.Proofs.YtepgfcjfdnakbaaDoor

/-- lowest terms -/
def lowN (N : Int) (D : Nat) : Int := N.tdiv (Nat.gcd N.natAbs D : Nat)
def lowD (N : Int) (D : Nat) : Nat := D / Nat.gcd N.natAbs D
theorem low_mul (N : Int) (D : Nat) : lowN N D * (Nat.gcd N.natAbs D : Nat) = N := by
  unfold lowN
  exact Int.tdiv_mul_cancel (Int.ofNat_dvd_left.2 (Nat.gcd_dvd_left _ _))
theorem low_muld (N : Int) (D : Nat) : lowD N D * Nat.gcd N.natAbs D = D := Nat.div_mul_cancel (Nat.gcd_dvd_right _ _)
theorem low_pos {N : Int} {D : Nat} (h : 0 < D) : 0 < lowD N D := by
  have := low_muld N D
  refine Nat.pos_of_ne_zero fun e => ?_
  rw [e] at this; omega
theorem low_g {N : Int} {D : Nat} (h : 0 < D) : 0 < Nat.gcd N.natAbs D := Nat.gcd_pos_of_pos_right _ h
theorem low_eq {N : Int} {D : Nat} (_h : 0 < D) : lowN N D * (D : Int) = N * (lowD N D : Int) := by
  have h1 := low_mul N D
  have h2 := low_muld N D
  have h2' : (lowD N D : Int) * (Nat.gcd N.natAbs D : Nat) = (D : Int) := by rw [← Int.natCast_mul, h2]
  have h3 : lowN N D * ((lowD N D : Int) * (Nat.gcd N.natAbs D : Nat)) = (lowN N D * (Nat.gcd N.natAbs D : Nat)) * (lowD N D : Int) := by
    rw [Int.mul_assoc, Int.mul_comm (lowD N D : Int)]
  rw [h2', h1] at h3
  exact h3
theorem low_dvd (N : Int) (D : Nat) : lowD N D ∣ D := ⟨_, (low_muld N D).symm⟩
theorem low_le {N : Int} {D : Nat} (h : 0 < D) : lowD N D ≤ D := Nat.le_of_dvd h (low_dvd N D)
theorem low_bd (N : Int) (D : Nat) : (lowN N D).natAbs ≤ N.natAbs := by
  unfold lowN
  rw [Int.natAbs_tdiv]
  exact Nat.div_le_self _ _
theorem low_ne {N : Int} {D : Nat} (h : N ≠ 0) : lowN N D ≠ 0 := by
  intro e
  have := low_mul N D
  rw [e, Int.zero_mul] at this
  exact h this.symm

/-- the ratio of the first k pairs -/
def rt (a b : Nat → Nat) : Nat → Int × Nat
  | 0 => (1, 1)
  | k + 1 => (lowN (-(rt a b k).1 * (a k : Int)) ((rt a b k).2 * b k), lowD (-(rt a b k).1 * (a k : Int)) ((rt a b k).2 * b k))
def pr (a : Nat → Nat) : Nat → Nat
  | 0 => 1
  | k + 1 => pr a k * a k
def sgn : Nat → Int
  | 0 => 1
  | k + 1 => -(sgn k)
theorem sgn_sq : ∀ k, sgn k * sgn k = 1
  | 0 => rfl
  | k + 1 => by show -(sgn k) * -(sgn k) = 1; rw [Int.neg_mul_neg]; exact sgn_sq k
theorem pr_pos {a : Nat → Nat} {n : Nat} (h : ∀ k, k < n → 0 < a k) : ∀ k, k ≤ n → 0 < pr a k
  | 0, _ => by simp [pr]
  | k + 1, hk => Nat.mul_pos (pr_pos h k (by omega)) (h k (by omega))
theorem pr_le {a : Nat → Nat} {n M : Nat} (h : ∀ k, k < n → a k ≤ M) : ∀ k, k ≤ n → pr a k ≤ M ^ k
  | 0, _ => by simp [pr]
  | k + 1, hk => by rw [Nat.pow_succ]; exact Nat.mul_le_mul (pr_le h k (by omega)) (h k (by omega))
theorem rt_all {a b : Nat → Nat} {n : Nat} (ha : ∀ k, k < n → 0 < a k) (hb : ∀ k, k < n → 0 < b k) : ∀ k, k ≤ n → 0 < (rt a b k).2 ∧ (rt a b k).2 ≤ pr b k ∧ (rt a b k).1.natAbs ≤ pr a k ∧ (rt a b k).1 ≠ 0 ∧
    (rt a b k).1 * (pr b k : Int) = (rt a b k).2 * (sgn k * (pr a k : Int))
  | 0, _ => by simp [rt, pr, sgn]
  | k + 1, hk => by
    obtain ⟨h1, h2, h3, h4, h5⟩ := rt_all ha hb k (by omega)
    have ha1 := ha k (by omega)
    have hb1 := hb k (by omega)
    have hD : 0 < (rt a b k).2 * b k := Nat.mul_pos h1 hb1
    have e1 : (rt a b (k + 1)).1 = lowN (-(rt a b k).1 * (a k : Int)) ((rt a b k).2 * b k) := rfl
    have e2 : (rt a b (k + 1)).2 = lowD (-(rt a b k).1 * (a k : Int)) ((rt a b k).2 * b k) := rfl
    have e3 : pr a (k + 1) = pr a k * a k := rfl
    have e4 : pr b (k + 1) = pr b k * b k := rfl
    have e5 : sgn (k + 1) = -(sgn k) := rfl
    rw [e1, e2, e3, e4, e5]
    generalize hN : -(rt a b k).1 * (a k : Int) = N at *
    generalize hDD : (rt a b k).2 * b k = DD at *
    have hle := low_le (N := N) hD
    have hbd := low_bd N DD
    have heq := low_eq (N := N) hD
    refine ⟨low_pos hD, ?_, ?_, ?_, ?_⟩
    · refine Nat.le_trans hle ?_
      rw [← hDD]; exact Nat.mul_le_mul_right _ h2
    · refine Nat.le_trans hbd ?_
      rw [← hN, Int.natAbs_mul, Int.natAbs_neg, Int.natAbs_natCast]
      exact Nat.mul_le_mul_right _ h3
    · refine low_ne ?_
      rw [← hN]
      exact Int.mul_ne_zero (by omega) (by omega)
    · have hDi : (DD : Int) ≠ 0 := by omega
      refine Int.eq_of_mul_eq_mul_right hDi ?_
      have hDDi : (DD : Int) = ((rt a b k).2 : Int) * (b k : Int) := by rw [← hDD, Int.natCast_mul]
      calc lowN N DD * ((pr b k * b k : Nat) : Int) * (DD : Int) = (lowN N DD * (DD : Int)) * ((pr b k : Int) * (b k : Int)) := by rw [Int.natCast_mul]; ac_rfl
        _ = N * (lowD N DD : Int) * ((pr b k : Int) * (b k : Int)) := by rw [heq]
        _ = (lowD N DD : Int) * -(a k : Int) * (b k : Int) * ((rt a b k).1 * (pr b k : Int)) := by rw [← hN, Int.neg_mul, Int.neg_mul, Int.neg_mul, Int.mul_neg, Int.neg_mul, Int.neg_mul]; ac_rfl
        _ = (lowD N DD : Int) * -(a k : Int) * (b k : Int) * ((rt a b k).2 * (sgn k * (pr a k : Int))) := by rw [h5]
        _ = (lowD N DD : Int) * (-(sgn k) * ((pr a k * a k : Nat) : Int)) * (DD : Int) := by rw [hDDi, Int.natCast_mul, Int.mul_neg, Int.neg_mul, Int.neg_mul, Int.neg_mul, Int.mul_neg, Int.neg_mul]; ac_rfl
theorem rt_congr {a b a' b' : Nat → Nat} : ∀ n, (∀ k, k < n → a k = a' k ∧ b k = b' k) → rt a b n = rt a' b' n
  | 0, _ => rfl
  | n + 1, h => by
    have h1 := h n (by omega)
    have h2 := rt_congr n (fun k hk => h k (by omega))
    show (lowN (-(rt a b n).1 * (a n : Int)) ((rt a b n).2 * b n), lowD (-(rt a b n).1 * (a n : Int)) ((rt a b n).2 * b n)) = _
    rw [h1.1, h1.2, h2]; rfl
/-- two trains, one behind the other -/
def jn (n : Nat) (a c : Nat → Nat) : Nat → Nat := fun k => if k < n then a k else c (k - n)
theorem jn_l {n k : Nat} (a c : Nat → Nat) (h : k < n) : jn n a c k = a k := by simp [jn, h]
theorem jn_r {n k : Nat} (a c : Nat → Nat) : jn n a c (n + k) = c k := by
  unfold jn
  rw [if_neg (by omega), Nat.add_sub_cancel_left]
theorem pr_congr {a a' : Nat → Nat} : ∀ n, (∀ k, k < n → a k = a' k) → pr a n = pr a' n
  | 0, _ => rfl
  | n + 1, h => by
    show pr a n * a n = pr a' n * a' n
    rw [pr_congr n (fun k hk => h k (by omega)), h n (by omega)]
theorem pr_jn (n : Nat) (a c : Nat → Nat) : ∀ m, pr (jn n a c) (n + m) = pr a n * pr c m
  | 0 => by rw [Nat.add_zero]; show _ = pr a n * 1; rw [Nat.mul_one]; exact pr_congr n (fun k hk => jn_l a c hk)
  | m + 1 => by
    show pr (jn n a c) (n + m) * jn n a c (n + m) = pr a n * (pr c m * c m)
    rw [pr_jn n a c m, jn_r, Nat.mul_assoc]
theorem sgn_add (n : Nat) : ∀ m, sgn (n + m) = sgn n * sgn m
  | 0 => by show sgn n = sgn n * 1; rw [Int.mul_one]
  | m + 1 => by show -(sgn (n + m)) = sgn n * -(sgn m); rw [sgn_add n m, Int.mul_neg]
theorem int3 {A B C D : Int} (h : A = B) (k : C = D) : A * C = B * D := by rw [h, k]
/-- the ratio of joined trains is the product -/
theorem rt_join {n m : Nat} {a b c d : Nat → Nat} (ha : ∀ k, k < n → 0 < a k) (hb : ∀ k, k < n → 0 < b k) (hc : ∀ k, k < m → 0 < c k) (hd : ∀ k, k < m → 0 < d k) :
    (rt (jn n a c) (jn n b d) (n + m)).1 * (((rt a b n).2 : Int) * ((rt c d m).2 : Int)) = (rt a b n).1 * (rt c d m).1 * ((rt (jn n a c) (jn n b d) (n + m)).2 : Int) := by
  obtain ⟨_, _, _, _, r⟩ := rt_all ha hb n (Nat.le_refl _)
  obtain ⟨_, _, _, _, s⟩ := rt_all hc hd m (Nat.le_refl _)
  have hj : ∀ (x y : Nat → Nat), (∀ k, k < n → 0 < x k) → (∀ k, k < m → 0 < y k) → ∀ k, k < n + m → 0 < jn n x y k := by
    intro x y hx hy k hk
    unfold jn
    split
    · exact hx k (by omega)
    · exact hy _ (by omega)
  obtain ⟨_, _, _, _, t⟩ := rt_all (hj a c ha hc) (hj b d hb hd) (n + m) (Nat.le_refl _)
  have p1 := pr_pos hb n (Nat.le_refl _)
  have p2 := pr_pos hd m (Nat.le_refl _)
  rw [pr_jn, pr_jn, sgn_add, Int.natCast_mul, Int.natCast_mul] at t
  generalize (rt (jn n a c) (jn n b d) (n + m)).1 = tn at *
  generalize (rt (jn n a c) (jn n b d) (n + m)).2 = td at *
  generalize (rt a b n).1 = rn at *
  generalize (rt a b n).2 = rd at *
  generalize (rt c d m).1 = sn at *
  generalize (rt c d m).2 = sd at *
  have hP : ((pr b n : Int) * (pr d m : Int)) ≠ 0 := Int.mul_ne_zero (by omega) (by omega)
  refine Int.eq_of_mul_eq_mul_right hP ?_
  calc tn * ((rd : Int) * sd) * ((pr b n : Int) * (pr d m : Int)) = (tn * ((pr b n : Int) * (pr d m : Int))) * ((rd : Int) * sd) := by ac_rfl
    _ = (td : Int) * (sgn n * sgn m * ((pr a n : Int) * (pr c m : Int))) * ((rd : Int) * sd) := by rw [t]
    _ = (td : Int) * (((rd : Int) * (sgn n * (pr a n : Int))) * ((sd : Int) * (sgn m * (pr c m : Int)))) := by ac_rfl
    _ = (td : Int) * ((rn * (pr b n : Int)) * (sn * (pr d m : Int))) := by rw [r, s]
    _ = rn * sn * (td : Int) * ((pr b n : Int) * (pr d m : Int)) := by ac_rfl
/-- a train from its end -/
def bk (n : Nat) (a : Nat → Nat) : Nat → Nat := fun k => a (n - 1 - k)
theorem pr_shift (a : Nat → Nat) : ∀ n, pr a (n + 1) = a 0 * pr (fun k => a (k + 1)) n
  | 0 => by show 1 * a 0 = a 0 * 1; omega
  | n + 1 => by show pr a (n + 1) * a (n + 1) = a 0 * (pr (fun k => a (k + 1)) n * a (n + 1)); rw [pr_shift a n, Nat.mul_assoc]
theorem pr_bk (a : Nat → Nat) : ∀ n, pr (bk n a) n = pr a n
  | 0 => rfl
  | n + 1 => by
    rw [pr_shift]
    have e : pr (fun k => bk (n + 1) a (k + 1)) n = pr (bk n a) n := pr_congr n (fun k hk => by show a (n + 1 - 1 - (k + 1)) = a (n - 1 - k); congr 1; omega)
    rw [e, pr_bk a n]
    show a (n + 1 - 1 - 0) * pr a n = pr a n * a n
    rw [Nat.mul_comm]; rfl
theorem rt_back {n : Nat} {a b : Nat → Nat} (ha : ∀ k, k < n → 0 < a k) (hb : ∀ k, k < n → 0 < b k) : (rt (bk n b) (bk n a) n).1 * (rt a b n).1 = ((rt (bk n b) (bk n a) n).2 : Int) * ((rt a b n).2 : Int) := by
  obtain ⟨_, _, _, _, r⟩ := rt_all ha hb n (Nat.le_refl _)
  obtain ⟨_, _, _, _, u⟩ := rt_all (a := bk n b) (b := bk n a) (n := n) (fun k hk => hb _ (by omega)) (fun k hk => ha _ (by omega)) n (Nat.le_refl _)
  have p1 := pr_pos hb n (Nat.le_refl _)
  have p2 := pr_pos ha n (Nat.le_refl _)
  have q := sgn_sq n
  rw [pr_bk, pr_bk] at u
  generalize (rt (bk n b) (bk n a) n).1 = un at *
  generalize (rt (bk n b) (bk n a) n).2 = ud at *
  generalize (rt a b n).1 = rn at *
  generalize (rt a b n).2 = rd at *
  have hP : ((pr a n : Int) * (pr b n : Int)) ≠ 0 := Int.mul_ne_zero (by omega) (by omega)
  refine Int.eq_of_mul_eq_mul_right hP ?_
  calc un * rn * ((pr a n : Int) * (pr b n : Int)) = (un * (pr a n : Int)) * (rn * (pr b n : Int)) := by ac_rfl
    _ = ((ud : Int) * (sgn n * (pr b n : Int))) * ((rd : Int) * (sgn n * (pr a n : Int))) := by rw [r, u]
    _ = (ud : Int) * rd * ((pr a n : Int) * (pr b n : Int)) * (sgn n * sgn n) := by ac_rfl
    _ = _ := by rw [q, Int.mul_one]

/-- after how many turns all wheels are as at the beginning: the first k pairs -/
def lt (a b : Nat → Nat) : Nat → Nat
  | 0 => 1
  | k + 1 => lt a b k / Nat.gcd (lt a b k) (rt a b (k + 1)).2 * (rt a b (k + 1)).2
theorem lt_all {a b : Nat → Nat} {n : Nat} (ha : ∀ k, k < n → 0 < a k) (hb : ∀ k, k < n → 0 < b k) : ∀ k, k ≤ n → 0 < lt a b k ∧ lt a b (k + 1) = lt a b k / Nat.gcd (lt a b k) (rt a b (k + 1)).2 * (rt a b (k + 1)).2
  | 0, _ => by simp [lt]
  | k + 1, hk => by
    obtain ⟨h1, h2⟩ := lt_all ha hb k (by omega)
    refine ⟨?_, rfl⟩
    rw [h2]
    have h3 := (rt_all ha hb (k + 1) hk).1
    refine Nat.mul_pos (Nat.div_pos (Nat.le_of_dvd h1 (Nat.gcd_dvd_left _ _)) (Nat.gcd_pos_of_pos_left _ h1)) h3
theorem lt_step_le (x d : Nat) : x / Nat.gcd x d * d ≤ x * d := Nat.mul_le_mul_right _ (Nat.div_le_self _ _)
theorem lt_dvd (a b : Nat → Nat) (k : Nat) : (rt a b (k + 1)).2 ∣ lt a b (k + 1) := Nat.dvd_mul_left _ _
/-- turns that are a multiple of the denominator -/
theorem low_whole {N : Int} {D n : Nat} (hD : 0 < D) (h : D ∣ n) : lowD (N * (n : Int)) D = 1 ∧ lowN (N * (n : Int)) D * (D : Int) = N * (n : Int) := by
  have hg : Nat.gcd (N * (n : Int)).natAbs D = D := by
    refine Nat.gcd_eq_right ?_
    rw [Int.natAbs_mul, Int.natAbs_natCast]
    exact Nat.dvd_trans h (Nat.dvd_mul_left _ _)
  have h1 : lowD (N * (n : Int)) D = 1 := by
    unfold lowD
    rw [hg]
    exact Nat.div_self hD
  refine ⟨h1, ?_⟩
  have := low_mul (N * (n : Int)) D
  rw [hg] at this
  exact this
/-- a fraction in lowest terms stays the same number -/
theorem low_cross {n d g num den : Nat} (hn : num = n * g) (hd : den = d * g) (hd0 : 0 < d) (k : Nat) (hk : 0 < k) : lowN ((k * n : Nat) : Int) (k * d) * (den : Int) = (num : Int) * (lowD ((k * n : Nat) : Int) (k * d) : Int) := by
  have h := low_eq (N := ((k * n : Nat) : Int)) (D := k * d) (Nat.mul_pos hk hd0)
  generalize lowN ((k * n : Nat) : Int) (k * d) = x at *
  generalize lowD ((k * n : Nat) : Int) (k * d) = y at *
  subst hn hd
  have hk' : (k : Int) ≠ 0 := by omega
  refine Int.eq_of_mul_eq_mul_right hk' ?_
  rw [Int.natCast_mul, Int.natCast_mul] at h
  rw [Int.natCast_mul, Int.natCast_mul]
  calc x * ((d : Int) * g) * (k : Int) = (x * ((k : Int) * d)) * g := by ac_rfl
    _ = ((k : Int) * n * y) * g := by rw [h]
    _ = _ := by ac_rfl
end Go.Proofs.YtepgfcjfdnakbaaDoor
/- Finer tables, part 1: fractions in lowest terms, values of a polynomial between its points, in plain words. -/
namespace Go.Proofs.YtepgfcjfdnakbaaDoor

/-- a fraction as a pair -/
def low (N : Int) (D : Nat) : Int × Nat := (lowN N D, lowD N D)
theorem low_cop {N : Int} {D : Nat} (h : 0 < D) : Nat.gcd (lowN N D).natAbs (lowD N D) = 1 := by
  unfold lowN lowD
  rw [Int.natAbs_tdiv, Int.natAbs_natCast]
  exact Nat.coprime_div_gcd_div_gcd (low_g h)
theorem low_uniq {n N : Int} {d D : Nat} (hd : 0 < d) (hD : 0 < D) (hc : Nat.gcd n.natAbs d = 1) (he : n * (D : Int) = N * (d : Int)) : lowN N D = n ∧ lowD N D = d := by
  have h1 := low_eq (N := N) hD
  have hb := low_pos (N := N) hD
  have hcop := low_cop (N := N) hD
  generalize lowN N D = a at *
  generalize lowD N D = b at *
  have hDz : (D : Int) ≠ 0 := by omega
  have e1 : a * (d : Int) = n * (b : Int) := by
    refine Int.eq_of_mul_eq_mul_right hDz ?_
    calc a * (d : Int) * (D : Int) = a * (D : Int) * (d : Int) := by rw [Int.mul_right_comm]
      _ = N * (b : Int) * (d : Int) := by rw [h1]
      _ = N * (d : Int) * (b : Int) := by rw [Int.mul_right_comm]
      _ = n * (D : Int) * (b : Int) := by rw [he]
      _ = n * (b : Int) * (D : Int) := by rw [Int.mul_right_comm]
  have e2 : a.natAbs * d = n.natAbs * b := by
    have := congrArg Int.natAbs e1
    rwa [Int.natAbs_mul, Int.natAbs_mul, Int.natAbs_natCast, Int.natAbs_natCast] at this
  have d1 : b ∣ d := (Nat.Coprime.symm hcop).dvd_of_dvd_mul_left (by rw [e2]; exact Nat.dvd_mul_left _ _)
  have d2 : d ∣ b := (Nat.Coprime.symm hc).dvd_of_dvd_mul_left (by rw [← e2]; exact Nat.dvd_mul_left _ _)
  have hdb : b = d := Nat.dvd_antisymm d1 d2
  subst hdb
  exact ⟨Int.eq_of_mul_eq_mul_right (by omega) e1, rfl⟩
theorem low_uniq' {n N : Int} {d D : Nat} (hd : 0 < d) (hD : 0 < D) (hc : Nat.gcd n.natAbs d = 1) (he : n * (D : Int) = N * (d : Int)) : low N D = (n, d) := by
  obtain ⟨h1, h2⟩ := low_uniq hd hD hc he
  unfold low
  rw [h1, h2]
theorem low_scale (N : Int) {D t : Nat} (hD : 0 < D) (ht : 0 < t) : low (N * (t : Int)) (D * t) = low N D := by
  refine low_uniq' (low_pos hD) (Nat.mul_pos hD ht) (low_cop hD) ?_
  rw [Int.natCast_mul, ← Int.mul_assoc, low_eq hD, Int.mul_right_comm]
theorem low_cong {N M : Int} {D E : Nat} (hD : 0 < D) (hE : 0 < E) (h : N * (E : Int) = M * (D : Int)) : low N D = low M E := by
  refine low_uniq' (low_pos hE) hD (low_cop hE) ?_
  have h1 := low_eq (N := M) hE
  have hEz : (E : Int) ≠ 0 := by omega
  refine Int.eq_of_mul_eq_mul_right hEz ?_
  calc lowN M E * (D : Int) * (E : Int) = lowN M E * (E : Int) * (D : Int) := by rw [Int.mul_right_comm]
    _ = M * (lowD M E : Int) * (D : Int) := by rw [h1]
    _ = M * (D : Int) * (lowD M E : Int) := by rw [Int.mul_right_comm]
    _ = N * (E : Int) * (lowD M E : Int) := by rw [h]
    _ = N * (lowD M E : Int) * (E : Int) := by rw [Int.mul_right_comm]
theorem low_one (x : Int) : low x 1 = (x, 1) := low_uniq' (by omega) (by omega) (Nat.gcd_one_right _) rfl
theorem low_zero {D : Nat} (h : 0 < D) : low 0 D = (0, 1) := low_uniq' (by omega) h (by simp) (by simp)
theorem low_neg (N : Int) {D : Nat} (h : 0 < D) : low (-N) D = (-(lowN N D), lowD N D) := by
  refine low_uniq' (low_pos h) h (by rw [Int.natAbs_neg]; exact low_cop h) ?_
  rw [Int.neg_mul, Int.neg_mul, low_eq h]
theorem low_whole' (x : Int) {D : Nat} (h : 0 < D) : low (x * (D : Int)) D = (x, 1) := low_uniq' (by omega) h (Nat.gcd_one_right _) (by simp)

/-- the sum as the program makes it -/
def addQ (f g : Int × Nat) : Int × Nat := low (f.1 * ((g.2 / Nat.gcd f.2 g.2 : Nat) : Int) + g.1 * ((f.2 / Nat.gcd f.2 g.2 : Nat) : Int)) (f.2 / Nat.gcd f.2 g.2 * g.2)
structure AddOk (a c : Int) (M : Nat) (f g : Int × Nat) : Prop where
  p1 : 0 < f.2
  p2 : 0 < g.2
  pg : 0 < Nat.gcd f.2 g.2
  pl : 0 < f.2 / Nat.gcd f.2 g.2 * g.2
  q1 : f.2 / Nat.gcd f.2 g.2 ≤ M
  q2 : g.2 / Nat.gcd f.2 g.2 ≤ M
  m1 : f.2 ≤ M
  m2 : g.2 ≤ M
  b1 : (f.1 * ((g.2 / Nat.gcd f.2 g.2 : Nat) : Int)).natAbs ≤ a.natAbs
  b2 : (g.1 * ((f.2 / Nat.gcd f.2 g.2 : Nat) : Int)).natAbs ≤ c.natAbs
  b3 : f.2 / Nat.gcd f.2 g.2 * g.2 ≤ M
  b4 : (f.1 * ((g.2 / Nat.gcd f.2 g.2 : Nat) : Int) + g.1 * ((f.2 / Nat.gcd f.2 g.2 : Nat) : Int)).natAbs ≤ (a + c).natAbs
  eq : addQ f g = low (a + c) M
theorem abs_le_mul (x : Int) {t : Nat} (h : 0 < t) : x.natAbs ≤ (x * (t : Int)).natAbs := by
  rw [Int.natAbs_mul, Int.natAbs_natCast]
  exact Nat.le_mul_of_pos_right _ h
theorem addQ_low (a c : Int) {M : Nat} (hM : 0 < M) : AddOk a c M (low a M) (low c M) := by
  have e1 := low_eq (N := a) hM
  have e2 := low_eq (N := c) hM
  have p1 := low_pos (N := a) hM
  have p2 := low_pos (N := c) hM
  have v1 := low_dvd a M
  have v2 := low_dvd c M
  have l1 := low_le (N := a) hM
  have l2 := low_le (N := c) hM
  unfold low
  generalize hn1 : lowN a M = n1 at *
  generalize hd1 : lowD a M = d1 at *
  generalize hn2 : lowN c M = n2 at *
  generalize hd2 : lowD c M = d2 at *
  have hg : 0 < Nat.gcd d1 d2 := Nat.gcd_pos_of_pos_left _ p1
  obtain ⟨x1, hx1⟩ := Nat.gcd_dvd_left d1 d2
  obtain ⟨x2, hx2⟩ := Nat.gcd_dvd_right d1 d2
  have q1 : d1 / Nat.gcd d1 d2 = x1 := Nat.div_eq_of_eq_mul_right hg hx1
  have q2 : d2 / Nat.gcd d1 d2 = x2 := Nat.div_eq_of_eq_mul_right hg hx2
  have hlcm : x1 * d2 ∣ M := by
    have h1 : Nat.lcm d1 d2 ∣ M := Nat.lcm_dvd v1 v2
    have h2 : Nat.lcm d1 d2 = x1 * d2 := by
      unfold Nat.lcm
      rw [Nat.mul_comm d1 d2, Nat.mul_div_assoc _ (Nat.gcd_dvd_left d1 d2), q1, Nat.mul_comm]
    rwa [h2] at h1
  obtain ⟨t, ht⟩ := hlcm
  have px1 : 0 < x1 := Nat.pos_of_ne_zero fun e => by rw [e, Nat.mul_zero] at hx1; omega
  have px2 : 0 < x2 := Nat.pos_of_ne_zero fun e => by rw [e, Nat.mul_zero] at hx2; omega
  have pt : 0 < t := Nat.pos_of_ne_zero fun e => by rw [e, Nat.mul_zero] at ht; omega
  have hsym : x1 * d2 = x2 * d1 := by
    have k1 : x1 * d2 = x1 * (Nat.gcd d1 d2 * x2) := congrArg (x1 * ·) hx2
    have k2 : x2 * d1 = x2 * (Nat.gcd d1 d2 * x1) := congrArg (x2 * ·) hx1
    rw [k1, k2]; simp only [Nat.mul_assoc, Nat.mul_comm, Nat.mul_left_comm]
  have c1 : n1 * (x2 : Int) * (t : Int) = a := by
    refine Int.eq_of_mul_eq_mul_right (show (d1 : Int) ≠ 0 by omega) ?_
    rw [← e1, ht, hsym, Int.natCast_mul, Int.natCast_mul]
    simp only [Int.mul_assoc, Int.mul_comm, Int.mul_left_comm]
  have c2 : n2 * (x1 : Int) * (t : Int) = c := by
    refine Int.eq_of_mul_eq_mul_right (show (d2 : Int) ≠ 0 by omega) ?_
    rw [← e2, ht, Int.natCast_mul, Int.natCast_mul]
    simp only [Int.mul_assoc, Int.mul_comm, Int.mul_left_comm]
  have hL : 0 < x1 * d2 := Nat.mul_pos px1 p2
  have hb3 : x1 * d2 ≤ M := by rw [ht]; exact Nat.le_mul_of_pos_right _ pt
  have c3 : (n1 * (x2 : Int) + n2 * (x1 : Int)) * (t : Int) = a + c := by rw [Int.add_mul, c1, c2]
  refine ⟨p1, p2, hg, ?_, ?_, ?_, l1, l2, ?_, ?_, ?_, ?_, ?_⟩ <;> (try dsimp only) <;> (try rw [q1]) <;> (try rw [q2])
  · exact hL
  · exact Nat.le_trans (Nat.le_mul_of_pos_right _ p2) hb3
  · rw [hsym] at hb3; exact Nat.le_trans (Nat.le_mul_of_pos_right _ p1) hb3
  · rw [← c1]; exact abs_le_mul _ pt
  · rw [← c2]; exact abs_le_mul _ pt
  · exact hb3
  · rw [← c3]; exact abs_le_mul _ pt
  · unfold addQ
    dsimp only
    rw [q1, q2, ← c3, ht]
    exact (low_scale _ hL pt).symm

/-- the products below and above -/
def bel (q : Nat) : Nat → Nat
  | 0 => 1
  | k + 1 => bel q k * (q * (k + 1))
def abv (x : Int) (q : Nat) : Nat → Int
  | 0 => 1
  | k + 1 => abv x q k * (x - (k : Int) * (q : Int))
theorem bel_pos {q : Nat} (h : 0 < q) : ∀ k, 0 < bel q k
  | 0 => by simp [bel]
  | k + 1 => Nat.mul_pos (bel_pos h k) (Nat.mul_pos h (by omega))
/-- the k-th factor of the sum: all parts below through the first k, times the k above -/
def trm (x : Int) (q n k : Nat) : Int := ((bel q n / bel q k : Nat) : Int) * abv x q k
theorem bel_dvd (q : Nat) : ∀ {k n : Nat}, k ≤ n → bel q k ∣ bel q n := by
  intro k n h
  induction n with
  | zero => obtain rfl : k = 0 := by omega
            exact Nat.dvd_refl _
  | succ m ih =>
    by_cases e : k = m + 1
    · subst e; exact Nat.dvd_refl _
    · exact Nat.dvd_trans (ih (by omega)) (Nat.dvd_mul_right _ _)
theorem bel_quot {q : Nat} (hq : 0 < q) {k n : Nat} (h : k + 1 ≤ n) : bel q n / bel q k = (bel q n / bel q (k + 1)) * (q * (k + 1)) := by
  obtain ⟨r, hr⟩ := bel_dvd q h
  have p1 := bel_pos hq (k + 1)
  have p0 := bel_pos hq k
  have e1 : bel q n / bel q (k + 1) = r := Nat.div_eq_of_eq_mul_right p1 hr
  have e2 : bel q n / bel q k = q * (k + 1) * r := Nat.div_eq_of_eq_mul_right p0 (by rw [hr]; show bel q k * (q * (k + 1)) * r = _; rw [Nat.mul_assoc])
  rw [e1, e2, Nat.mul_comm]
theorem trm_zero (x : Int) (q n : Nat) : trm x q n 0 = (bel q n : Int) := by
  unfold trm
  show ((bel q n / 1 : Nat) : Int) * 1 = _
  rw [Nat.div_one, Int.mul_one]
/-- the reference's step -/
theorem trm_step (x : Int) {q n k : Nat} (hq : 0 < q) (h : k + 1 ≤ n) : Int.tdiv (trm x q n k) (((k : Int) + 1) * (q : Int)) * (x - (k : Int) * (q : Int)) = trm x q n (k + 1) := by
  unfold trm
  rw [bel_quot hq h]
  have hz : ((k : Int) + 1) * (q : Int) ≠ 0 := by
    have : 0 < (((k + 1) * q : Nat) : Int) := by have := Nat.mul_pos (show 0 < k + 1 by omega) hq; omega
    rw [Int.natCast_mul] at this
    intro e
    have e' : ((k + 1 : Nat) : Int) * (q : Int) = 0 := e
    omega
  have e1 : (((bel q n / bel q (k + 1)) * (q * (k + 1)) : Nat) : Int) * abv x q k = (((bel q n / bel q (k + 1) : Nat) : Int) * abv x q k) * (((k : Int) + 1) * (q : Int)) := by
    rw [Int.natCast_mul, Int.natCast_mul, Int.natCast_add]
    simp only [Int.natCast_one, Int.mul_assoc, Int.mul_comm, Int.mul_left_comm]
  rw [e1, Int.mul_tdiv_cancel _ hz]
  show _ = _ * (abv x q k * (x - (k : Int) * (q : Int)))
  rw [Int.mul_assoc]
/-- the sum of the first k terms -/
def smQ (L : Nat → Int) (x : Int) (q n : Nat) : Nat → Int
  | 0 => 0
  | k + 1 => smQ L x q n k + L k * trm x q n k
/-- the program's k-th term in lowest terms -/
theorem low_trm (L : Nat → Int) (x : Int) {q n k : Nat} (hq : 0 < q) (h : k ≤ n) : low (L k * abv x q k) (bel q k) = low (L k * trm x q n k) (bel q n) := by
  refine low_cong (bel_pos hq k) (bel_pos hq n) ?_
  unfold trm
  obtain ⟨r, hr⟩ := bel_dvd q h
  have e1 : bel q n / bel q k = r := Nat.div_eq_of_eq_mul_right (bel_pos hq k) hr
  rw [e1, hr, Int.natCast_mul]
  simp only [Int.mul_assoc, Int.mul_comm, Int.mul_left_comm]
/-! bounds -/
theorem abv_bd {x : Int} {q R m : Nat} (h : ∀ k, k < m → (x - (k : Int) * (q : Int)).natAbs ≤ R) : ∀ k, k ≤ m → (abv x q k).natAbs ≤ R ^ k
  | 0, _ => by simp [abv]
  | k + 1, hk => by
    show (abv x q k * (x - (k : Int) * (q : Int))).natAbs ≤ _
    rw [Int.natAbs_mul, Nat.pow_succ]
    exact Nat.mul_le_mul (abv_bd h k (by omega)) (h k (by omega))
theorem bel_bd {q R m : Nat} (h : q * m ≤ R) : ∀ k, k ≤ m → bel q k ≤ R ^ k
  | 0, _ => by simp [bel]
  | k + 1, hk => by
    show bel q k * (q * (k + 1)) ≤ _
    rw [Nat.pow_succ]
    exact Nat.mul_le_mul (bel_bd h k (by omega)) (Nat.le_trans (Nat.mul_le_mul_left q hk) h)
theorem quot_bd {q R n : Nat} (hq : 0 < q) (h : q * n ≤ R) : ∀ j, j ≤ n → bel q n / bel q (n - j) ≤ R ^ j
  | 0, _ => by rw [Nat.sub_zero, Nat.div_self (bel_pos hq n)]; exact Nat.le_refl _
  | j + 1, hj => by
    rw [bel_quot hq (k := n - (j + 1)) (by omega), show n - (j + 1) + 1 = n - j by omega, Nat.pow_succ]
    exact Nat.mul_le_mul (quot_bd hq h j (by omega)) (Nat.le_trans (Nat.mul_le_mul_left q (by omega)) h)
theorem trm_bd {x : Int} {q n R : Nat} (hq : 0 < q) (hn : q * n ≤ R) (h : ∀ k, k < n → (x - (k : Int) * (q : Int)).natAbs ≤ R) (k : Nat) (hk : k ≤ n) : (trm x q n k).natAbs ≤ R ^ n := by
  unfold trm
  rw [Int.natAbs_mul, Int.natAbs_natCast]
  have h1 := quot_bd hq hn (n - k) (by omega)
  rw [show n - (n - k) = k by omega] at h1
  have h2 := Nat.mul_le_mul h1 (abv_bd h k hk)
  rw [← Nat.pow_add, show n - k + k = n by omega] at h2
  exact h2
/-- leads that at most double -/
def Lds (L : Nat → Int) (m : Nat) : Prop := ∀ k, k < m → (L k).natAbs ≤ 2 ^ k * 100000
theorem smQ_bd {L : Nat → Int} {x : Int} {q n R m : Nat} (hq : 0 < q) (hn : q * n ≤ R) (h : ∀ k, k < n → (x - (k : Int) * (q : Int)).natAbs ≤ R) (hL : Lds L m) (hm : m ≤ n + 1) : ∀ k, k ≤ m → (smQ L x q n k).natAbs ≤ (2 ^ k - 1) * (100000 * R ^ n)
  | 0, _ => by simp [smQ]
  | k + 1, hk => by
    have h1 := smQ_bd hq hn h hL hm k (by omega)
    have h2 := trm_bd hq hn h k (by omega)
    have h3 := hL k (by omega)
    have h4 : (L k * trm x q n k).natAbs ≤ 2 ^ k * (100000 * R ^ n) := by
      rw [Int.natAbs_mul, ← Nat.mul_assoc]; exact Nat.mul_le_mul h3 h2
    show (smQ L x q n k + L k * trm x q n k).natAbs ≤ _
    have h5 : (2 ^ (k + 1) - 1) * (100000 * R ^ n) = (2 ^ k - 1) * (100000 * R ^ n) + 2 ^ k * (100000 * R ^ n) := by
      rw [← Nat.add_mul]; congr 1
      have := Nat.pow_pos (n := k) (show 0 < 2 by omega)
      rw [Nat.pow_succ]; omega
    rw [h5]
    omega
/-! the points themselves -/
theorem chb_rec : ∀ x, x < 7 → ∀ k, k < 7 → (chb x (k + 1) : Int) * ((k : Int) + 1) = (chb x k : Int) * ((x : Int) - (k : Int)) := by decide +kernel
theorem trm_point {x q n : Nat} (hx : x < 7) (hq : 0 < q) (hn : n < 7) : ∀ k, k ≤ n → trm ((x : Int) * (q : Int)) q n k = (chb x k : Int) * (bel q n : Int)
  | 0, _ => by rw [trm_zero]; simp [chb]
  | k + 1, hk => by
    have ih := trm_point hx hq hn k (by omega)
    have hrec := chb_rec x hx k (by omega)
    have hz : ((k : Int) + 1) * (q : Int) ≠ 0 := by
      have : 0 < (((k + 1) * q : Nat) : Int) := by have := Nat.mul_pos (show 0 < k + 1 by omega) hq; omega
      rw [Int.natCast_mul] at this
      intro e
      have e' : ((k + 1 : Nat) : Int) * (q : Int) = 0 := e
      omega
    refine Int.eq_of_mul_eq_mul_right hz ?_
    have e1 : trm ((x : Int) * (q : Int)) q n (k + 1) * (((k : Int) + 1) * (q : Int)) = trm ((x : Int) * (q : Int)) q n k * ((x : Int) * (q : Int) - (k : Int) * (q : Int)) := by
      unfold trm
      rw [bel_quot hq hk]
      show _ * (abv _ q k * _) * _ = _
      rw [Int.natCast_mul, Int.natCast_mul, Int.natCast_add]
      simp only [Int.natCast_one, Int.mul_assoc, Int.mul_comm, Int.mul_left_comm]
    rw [e1, ih, ← Int.sub_mul]
    calc (chb x k : Int) * (bel q n : Int) * (((x : Int) - (k : Int)) * (q : Int)) = ((chb x k : Int) * ((x : Int) - (k : Int))) * ((bel q n : Int) * (q : Int)) := by simp only [Int.mul_assoc, Int.mul_comm, Int.mul_left_comm]
      _ = ((chb x (k + 1) : Int) * ((k : Int) + 1)) * ((bel q n : Int) * (q : Int)) := by rw [hrec]
      _ = _ := by simp only [Int.mul_assoc, Int.mul_comm, Int.mul_left_comm]
theorem smQ_point (L : Nat → Int) {x q n : Nat} (hx : x < 7) (hq : 0 < q) (hn : n < 7) : ∀ k, k ≤ n + 1 → smQ L ((x : Int) * (q : Int)) q n k = nval L x k * (bel q n : Int)
  | 0, _ => by simp [smQ, nval]
  | k + 1, hk => by
    show smQ L _ q n k + L k * trm _ q n k = (nval L x k + L k * (chb x k : Int)) * (bel q n : Int)
    rw [smQ_point L hx hq hn k (by omega), trm_point hx hq hn k (by omega), Int.add_mul, Int.mul_assoc]
/-- Newton's formula gives the values back -/
theorem newton_back (f : Nat → Int) (m x : Nat) (hm : m ≤ 6) (hx : x < m) : nval (fun j => Dn j f 0) x m = f x := by
  obtain rfl | rfl | rfl | rfl | rfl | rfl : m = 1 ∨ m = 2 ∨ m = 3 ∨ m = 4 ∨ m = 5 ∨ m = 6 := by omega
  all_goals
    obtain rfl | rfl | rfl | rfl | rfl | rfl : x = 0 ∨ x = 1 ∨ x = 2 ∨ x = 3 ∨ x = 4 ∨ x = 5 := by omega
    all_goals first | omega | (simp [nval, chb, Dn, D]; done) | (simp [nval, chb, Dn, D]; omega)
end Go.Proofs.YtepgfcjfdnakbaaDoor
