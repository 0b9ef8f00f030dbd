/- Merged texts: Lib, Lib2, Base, Df1, Strs, Args, ArgRows, En1, En2, En3, En4, Lo1, Lo2, Lo3, Lo4, Lo5, Nm1, Nm2, Nm3, En6, En7, Lib3, En8, En5, En9, Si1, Reg1, Si2, Si3, Si4, Si5, Lo6, Lo7, Lo8, Lo9, Lo10, Lo11, Lib5, Bk4, Dm1. -/
import Derived.WalkKit
import Derived.WalkSpells
import Derived.WalkLawsBesides
import Derived.Deep.QuietTactic
import Derived.BigQuiet
import Derived.StillTailTactics
import Derived.Laws.IdiomStrings
import Derived.Deep.RegionHeld3
import Derived.Deep.AppendLies
import Derived.Deep.DrawnRows
import Derived.Lib.Hide
import Derived.IntWalk
import Derived.KernelRfl
import Derived.Test.YtemcdmjnokpldaaRows
import Derived.Lib.SmallJoins
import Derived.Deep.RegionLaw
import Derived.ProofKit
import Derived.OpenShut
import Derived.Deep.Slices
import Derived.SliceStrings
/- Laws of my own for walks: append of new elements to a row of the call's own; conversions of owned rows of bytes to strings. No program is named here but for the numbers of types. -/
namespace Go.Proofs.Ytemcdmjnokpldaa
open Go.RowKit

theorem ret_int {k : IntKind} {a b : Int} (h : a = b) : Ending.returned (.int k a) = .returned (.int k b) := by rw [h]

section
variable {P : Program}

/-- the cells of a block that has just been made -/
theorem new_cells (w : World) (cs : Array Value) (e : TypeId) : ∀ j u, cs.toList[j]? = some u → (w.alloc (.cells cs e)).cell? ((⟨w.heap.size, 0, none⟩ : Addr).add j) = some u := by
  intro j u hu
  have hadd : (⟨w.heap.size, 0, none⟩ : Addr).add j = ⟨w.heap.size, j, none⟩ := by unfold Addr.add; split <;> simp_all
  rw [hadd, cell_of_row (w.alloc (.cells cs e)) w.heap.size j cs e (0, 0) (heap_alloc_new w _)]
  simpa using hu

theorem wpList_apd {w : World} {ops : Array Oper} {rest : List Oper} {o : Oper} {a : Act} {Q : Exit → Act → World → Prop} (t e : TypeId) (z : Value) (size bytes : Nat)
    (ht : P.underlying t = some (.slice e)) (hinfo : (P.info? e).map (fun i => (i.zero, i.size, i.bytes)) = some (some z, size, bytes)) (hzs : z.cells.size = size) (hsz : 0 < size)
    (s x : Operand) (hgd : o.guard = none) (ho : o.op = .call { callee := .builtin .append, args := #[s, x], argTypes := #[t, t] })
    (base : Nat) (v : Value) (n : Nat) (xs : List Value) (hs : a.eval s = v) (hown : w.ownsRow base e size v n xs)
    (cs : Array Value) (m c : Nat) (hx : a.eval x = .slice (some ⟨w.heap.size, 0, none⟩) m c) (hl : cs.toList.length = m * size) (h1 : ∀ u ∈ cs.toList, u.oneCell' = true)
    (h63 : n + m ≤ maxLen) (hbytes : (n + m) * bytes ≤ 140737488355328) (hbase : base ≤ w.heap.size)
    (h : ∀ v' w', w'.ownsRow base e size v' (n + m) (xs ++ cs.toList) → w.grownBy w' v.ownBlock → wpList P ops Q rest (a.put o.dst v') w') :
    wpList P ops Q (o :: rest) a (w.alloc (.cells cs e)) := by
  obtain ⟨i, hi, hz, h2, h3⟩ := info_parts hinfo
  refine wpList_append_own _ hgd s x t ho base e i z size bytes ht hi hz h2 h3 hzs hsz v n xs hs (hown.alloc _) ⟨w.heap.size, 0, none⟩ m c cs.toList hx hl (new_cells w cs e) h1 h63 hbytes (by simp; omega) ?_
  intro v' w' ho' hg' _
  refine h v' w' ho' ⟨hg'.os, hg'.tape, hg'.output, Nat.le_trans (by simp) hg'.size, fun k hk hne => ?_⟩
  rw [hg'.block k (by simp; omega) hne]
  exact Below.heap_alloc w _ k hk

theorem wp_apd {w : World} {o : Oper} {a : Act} {K : Act → World → Prop} {Q : Exit → Act → World → Prop} (t e : TypeId) (z : Value) (size bytes : Nat)
    (ht : P.underlying t = some (.slice e)) (hinfo : (P.info? e).map (fun i => (i.zero, i.size, i.bytes)) = some (some z, size, bytes)) (hzs : z.cells.size = size) (hsz : 0 < size)
    (s x : Operand) (ho : o.op = .call { callee := .builtin .append, args := #[s, x], argTypes := #[t, t] })
    (base : Nat) (v : Value) (n : Nat) (xs : List Value) (hs : a.eval s = v) (hown : w.ownsRow base e size v n xs)
    (cs : Array Value) (m c : Nat) (hx : a.eval x = .slice (some ⟨w.heap.size, 0, none⟩) m c) (hl : cs.toList.length = m * size) (h1 : ∀ u ∈ cs.toList, u.oneCell' = true)
    (h63 : n + m ≤ maxLen) (hbytes : (n + m) * bytes ≤ 140737488355328) (hbase : base ≤ w.heap.size)
    (h : ∀ v' w', w'.ownsRow base e size v' (n + m) (xs ++ cs.toList) → w.grownBy w' v.ownBlock → K (a.put o.dst v') w') :
    o.wp P a (w.alloc (.cells cs e)) K Q := by
  obtain ⟨i, hi, hz, h2, h3⟩ := info_parts hinfo
  refine wp_append_own _ s x t ho base e i z size bytes ht hi hz h2 h3 hzs hsz v n xs hs (hown.alloc _) ⟨w.heap.size, 0, none⟩ m c cs.toList hx hl (new_cells w cs e) h1 h63 hbytes (by simp; omega) ?_
  intro v' w' ho' hg' _
  refine h v' w' ho' ⟨hg'.os, hg'.tape, hg'.output, Nat.le_trans (by simp) hg'.size, fun k hk hne => ?_⟩
  rw [hg'.block k (by simp; omega) hne]
  exact Below.heap_alloc w _ k hk

/-- the same at a step of a region that draws its order -/
theorem step_apd {w : World} {ops : Array Oper} {o : Oper} {a : Act} {K : Act → World → Prop} {Q : Exit → Act → World → Prop} {E : Prop} (t e : TypeId) (z : Value) (size bytes : Nat)
    (ht : P.underlying t = some (.slice e)) (hinfo : (P.info? e).map (fun i => (i.zero, i.size, i.bytes)) = some (some z, size, bytes)) (hzs : z.cells.size = size) (hsz : 0 < size)
    (s x : Operand) (hgd : o.guard = none) (ho : o.op = .call { callee := .builtin .append, args := #[s, x], argTypes := #[t, t] })
    (base : Nat) (v : Value) (n : Nat) (xs : List Value) (hs : a.eval s = v) (hown : w.ownsRow base e size v n xs)
    (cs : Array Value) (m c : Nat) (hx : a.eval x = .slice (some ⟨w.heap.size, 0, none⟩) m c) (hl : cs.toList.length = m * size) (h1 : ∀ u ∈ cs.toList, u.oneCell' = true)
    (h63 : n + m ≤ maxLen) (hbytes : (n + m) * bytes ≤ 140737488355328) (hbase : base ≤ w.heap.size)
    (h : ∀ v' w', w'.ownsRow base e size v' (n + m) (xs ++ cs.toList) → w.grownBy w' v.ownBlock → K (a.put o.dst v') w') :
    if Region.wanted o (yielded ops a.tmps) = true then Oper.wp P o a (w.alloc (.cells cs e)).drew K Q else E := by
  have hw : Region.wanted o (yielded ops a.tmps) = true := by simp [Region.wanted, hgd]
  rw [if_pos hw]
  refine wp_apd (w := w.drew) t e z size bytes ht hinfo hzs hsz s x ho base v n xs hs hown.drew cs m c hx hl h1 h63 hbytes hbase ?_
  intro v' w' h2 h3
  exact h v' w' h2 ⟨h3.os, h3.tape, h3.output, h3.size, h3.block⟩

/-- what an append to a row of the call's own does to what lay below -/
theorem below_apd {w w' : World} {B base : Nat} {W : World} {e : TypeId} {size n : Nat} {v : Value} {xs : List Value} (h : Below B W w) (hown : w.ownsRow base e size v n xs) (hg : w.grownBy w' v.ownBlock)
    (hB : B ≤ base) (hs : B ≤ w.heap.size) : Below B W w' :=
  h.grown hg hs (fun k hk => Nat.le_trans hB (hown.lt k hk).1)

theorem below_drewN {B : Nat} {a w : World} (h : Below B a w) (n : Nat) : Below B a (w.drewN n) := ⟨h.os, h.tape, h.output, h.size, h.block⟩
theorem below_undrew {B : Nat} {a w : World} (h : Below B a.drew w) : Below B a w := ⟨h.os, h.tape, h.output, h.size, h.block⟩
theorem below_undrewN {B n : Nat} {a w : World} (h : Below B (a.drewN n) w) : Below B a w := ⟨h.os, h.tape, h.output, h.size, h.block⟩
theorem grown_undrew {r : Option Nat} {a w : World} (h : a.drew.grownBy w r) : a.grownBy w r := ⟨h.os, h.tape, h.output, h.size, h.block⟩
theorem grown_of_below {a w : World} (h : Below a.heap.size a w) (r : Option Nat) : a.grownBy w r := ⟨h.os, h.tape, h.output, h.size, fun i hi _ => h.block i hi⟩
theorem grown_trans {a b c : World} {r : Option Nat} (h : a.grownBy b r) (k : b.grownBy c r) : a.grownBy c r :=
  ⟨k.os.trans h.os, k.tape.trans h.tape, k.output.trans h.output, Nat.le_trans h.size k.size, fun i hi hne => (k.block i (Nat.lt_of_lt_of_le hi h.size) hne).trans (h.block i hi hne)⟩
theorem own_below {w w' : World} {base : Nat} {e : TypeId} {size : Nat} {v : Value} {n : Nat} {xs : List Value} (h : w.ownsRow base e size v n xs) (hb : Below w.heap.size w w') : w'.ownsRow base e size v n xs :=
  h.kept (grown_of_below hb none) (by cases hv : v.ownBlock <;> simp)
theorem _root_.Go.World.ownsRow.drewN {w : World} {base : Nat} {e : TypeId} {size : Nat} {v : Value} {n : Nat} {xs : List Value} (h : w.ownsRow base e size v n xs) (k : Nat) : (w.drewN k).ownsRow base e size v n xs := h

theorem blk2 {w : World} {g : Nat} {a b : Value} {t : TypeId} (h : w.heap[g]? = some (.cells #[a, b] t (0, 0))) :
    w.cell? ⟨g, 0, none⟩ = some a ∧ w.cell? ⟨g, 1, none⟩ = some b ∧ w.frozen? ⟨g, 0, none⟩ = false ∧ w.frozen? ⟨g, 1, none⟩ = false :=
  ⟨by rw [cell_of_row w g 0 _ _ _ h]; rfl, by rw [cell_of_row w g 1 _ _ _ h]; rfl, frozen_of_row w g 0 _ _ h, frozen_of_row w g 1 _ _ h⟩
theorem grown_setCell {a w : World} {r : Option Nat} (h : a.grownBy w r) {p : Addr} (hp : some p.block = r ∨ a.heap.size ≤ p.block) (u : Value) : a.grownBy (w.setCell p u) r :=
  ⟨h.os, h.tape, h.output, by simpa [World.setCell] using h.size, fun i hi hne => (Below.heap_setCell w p u i (by
    rintro rfl
    rcases hp with hp | hp
    · exact hne hp
    · omega)).trans (h.block i hi hne)⟩
theorem grown_alloc {a w : World} {r : Option Nat} (h : a.grownBy w r) (o : Obj) : a.grownBy (w.alloc o) r :=
  ⟨h.os, h.tape, h.output, Nat.le_trans h.size (by simp), fun i hi hne => (Below.heap_alloc w o i (Nat.lt_of_lt_of_le hi h.size)).trans (h.block i hi hne)⟩
theorem grown_below {a b c : World} {r : Option Nat} (h : a.grownBy b r) (k : Below b.heap.size b c) : a.grownBy c r := grown_trans h (grown_of_below k r)
/-- a block that was made on the way: seen from before, it is new -/
theorem grown_from_alloc {a w : World} {o : Obj} {r : Option Nat} (h : (a.alloc o).grownBy w r) : a.grownBy w r :=
  ⟨h.os, h.tape, h.output, Nat.le_trans (by simp) h.size, fun i hi hne => (h.block i (by simp; omega) hne).trans (Below.heap_alloc a o i hi)⟩
theorem below_of_grown {a w : World} {r : Option Nat} {B : Nat} (h : a.grownBy w r) (hB : B ≤ a.heap.size) (hr : ∀ x, r = some x → B ≤ x) : Below B a w :=
  ⟨h.os, h.tape, h.output, h.size, fun i hi => h.block i (by omega) (fun e => by have := hr i e.symm; omega)⟩

/-- THE READING OF A SLICE: the value is a slice of n elements, whose cells (sz an element) lie below block B and hold cs. -/
def Rd (w : World) (B : Nat) (v : Value) (n sz : Nat) (cs : List Value) : Prop :=
  cs.length = n * sz ∧ ∃ A c, v = .slice A n c ∧ (0 < n * sz → ∃ b off, A = some ⟨b, off, none⟩ ∧ b < B ∧ ∀ i u, cs[i]? = some u → w.cell? ⟨b, off + i, none⟩ = some u)

theorem Rd.of_own {w : World} {base : Nat} {e : TypeId} {sz n : Nat} {v : Value} {cs : List Value} (h : w.ownsRow base e sz v n cs) : Rd w w.heap.size v n sz cs := by
  refine ⟨h.1, ?_⟩
  rcases h.2 with ⟨rfl, rfl⟩ | ⟨g, cap, cur, rfl, _, hg, _⟩
  · exact ⟨none, 0, rfl, fun h => by simp at h⟩
  · refine ⟨_, _, rfl, fun _ => ⟨g, 0, rfl, (Array.getElem?_eq_some_iff.1 hg).1, fun i u hu => ?_⟩⟩
    have := h.cells (g := g) rfl i u hu
    rw [show (⟨g, 0, none⟩ : Addr).add i = ⟨g, 0 + i, none⟩ by unfold Addr.add; split <;> simp_all] at this
    exact this
theorem Rd.keep {w w' : World} {B : Nat} {v : Value} {n sz : Nat} {cs : List Value} (h : Rd w B v n sz cs) (hk : ∀ p : Addr, p.block < B → w'.cell? p = w.cell? p) : Rd w' B v n sz cs := by
  obtain ⟨h1, A, c, hv, h2⟩ := h
  refine ⟨h1, A, c, hv, fun hn => ?_⟩
  obtain ⟨b, off, hA, hb, hc⟩ := h2 hn
  exact ⟨b, off, hA, hb, fun i u hu => (hk _ hb).trans (hc i u hu)⟩
theorem Rd.below {w w' : World} {B : Nat} {v : Value} {n sz : Nat} {cs : List Value} (h : Rd w B v n sz cs) (hb : Below B w w') : Rd w' B v n sz cs := h.keep fun _ hp => hb.cell hp
theorem Rd.more {w : World} {B B' : Nat} {v : Value} {n sz : Nat} {cs : List Value} (h : Rd w B v n sz cs) (hB : B ≤ B') : Rd w B' v n sz cs := by
  obtain ⟨h1, A, c, hv, h2⟩ := h
  refine ⟨h1, A, c, hv, fun hn => ?_⟩
  obtain ⟨b, off, hA, hb, hc⟩ := h2 hn
  exact ⟨b, off, hA, Nat.lt_of_lt_of_le hb hB, hc⟩
theorem Rd.drewN {w : World} {B : Nat} {v : Value} {n sz : Nat} {cs : List Value} (h : Rd w B v n sz cs) (k : Nat) : Rd (w.drewN k) B v n sz cs := h

theorem ba_app (a b : Array UInt8) : ((⟨a⟩ : ByteArray) ++ ⟨b⟩) = ⟨a ++ b⟩ := ByteArray.ext (by simp)
theorem ba_inj {a b : ByteArray} (h : a.toList = b.toList) : a = b := by
  rw [ByteArray.toList_eq, ByteArray.toList_eq] at h
  exact ByteArray.ext (by rw [← Array.toArray_toList (xs := a.data), h, Array.toArray_toList])

/-- a byte as a cell -/
def byV (c : UInt8) : Value := .int .u8 (c.toNat : Int)

theorem run_conv_own {w : World} (src dst e : TypeId) (hsrc : P.underlying src = some (.slice e)) (he : P.underlying e = some (.int .u8)) (hd : P.underlying dst = some .string)
    (base : Nat) (v : Value) (n : Nat) (l : List UInt8) (hown : w.ownsRow base e 1 v n (l.map byV)) : (convert src dst v).run P w = .ok (.string ⟨l.toArray⟩) w := by
  have hlen : l.length = n := by simpa using hown.1
  rcases hown.2 with ⟨rfl, h0⟩ | ⟨g, cap, cur, rfl, _, hg, _⟩
  · obtain rfl : l = [] := List.eq_nil_of_length_eq_zero (by omega)
    rw [run_convert_bytes_string w src dst e _ _ _ hsrc he hd]
    simp [Conv.bytesToString]; rfl
  · subst hlen
    refine run_convert_bytes_back w src dst e _ cap l hsrc he hd (fun j hj => ?_)
    have := hown.cells (g := g) rfl j (byV l[j]) (by simp [hj])
    exact this
theorem run_conv_one {w : World} (src dst e : TypeId) (hsrc : P.underlying src = some (.slice e)) (he : P.underlying e = some (.int .u8)) (hd : P.underlying dst = some .string) (c : UInt8) :
    (convert src dst (.slice (some ⟨w.heap.size, 0, none⟩) 1 1)).run P (w.alloc (.cells #[.int .u8 (c.toNat : Int)] e)) = .ok (.string ⟨#[c]⟩) (w.alloc (.cells #[.int .u8 (c.toNat : Int)] e)) :=
  run_convert_bytes_back _ src dst e _ 1 [c] hsrc he hd (fun j hj => by
    have : j = 0 := by simpa using hj
    subst this
    exact new_cells w #[.int .u8 (c.toNat : Int)] e 0 _ rfl)
end
end Go.Proofs.Ytemcdmjnokpldaa
/- Append of a row that is read to a row of the call's own. No program is named here. -/
namespace Go.Proofs.Ytemcdmjnokpldaa
open Go.RowKit

section
variable {P : Program}
theorem wpList_apr {w : World} {ops : Array Oper} {rest : List Oper} {o : Oper} {a : Act} {Q : Exit → Act → World → Prop} (t e : TypeId) (z : Value) (size bytes : Nat)
    (ht : P.underlying t = some (.slice e)) (hinfo : (P.info? e).map (fun i => (i.zero, i.size, i.bytes)) = some (some z, size, bytes)) (hzs : z.cells.size = size) (hsz : 0 < size)
    (s x : Operand) (hgd : o.guard = none) (ho : o.op = .call { callee := .builtin .append, args := #[s, x], argTypes := #[t, t] })
    (base : Nat) (v : Value) (n : Nat) (xs : List Value) (hs : a.eval s = v) (hown : w.ownsRow base e size v n xs)
    (b off m c : Nat) (cs : List Value) (hx : a.eval x = .slice (some ⟨b, off, none⟩) m c) (hl : cs.length = m * size) (hc : ∀ (i : Nat) (u : Value), cs[i]? = some u → w.cell? ⟨b, off + i, none⟩ = some u) (h1 : ∀ u ∈ cs, u.oneCell' = true)
    (h63 : n + m ≤ maxLen) (hbytes : (n + m) * bytes ≤ 140737488355328) (hbase : base ≤ w.heap.size)
    (h : ∀ v' w', w'.ownsRow base e size v' (n + m) (xs ++ cs) → w.grownBy w' v.ownBlock → wpList P ops Q rest (a.put o.dst v') w') :
    wpList P ops Q (o :: rest) a w := by
  obtain ⟨i, hi, hz, h2, h3⟩ := info_parts hinfo
  refine wpList_append_own _ hgd s x t ho base e i z size bytes ht hi hz h2 h3 hzs hsz v n xs hs hown ⟨b, off, none⟩ m c cs hx hl (fun j u hu => ?_) h1 h63 hbytes hbase ?_
  · have hadd : (⟨b, off, none⟩ : Addr).add j = ⟨b, off + j, none⟩ := by unfold Addr.add; split <;> simp_all
    rw [hadd]; exact hc j u hu
  · intro v' w' ho' hg' _
    exact h v' w' ho' hg'
end
end Go.Proofs.Ytemcdmjnokpldaa
/- Contracts for the small helpers (l00In, between). -/
namespace Go.Proofs.Ytemcdmjnokpldaa
open Go.RowKit

def inB (n low high : Int) : Bool := decide (low ≤ n) && decide (n ≤ high)

set_option maxHeartbeats 400000 in
theorem l00In_any (n low high : Int) (w : World) :
    Calls Try.prog 72 #[.int .i64 n, .int .i64 low, .int .i64 high] w fun e w' => e = .returned (.bool (inB n low high)) ∧ w = w' := by
  go_enter Try.func72, Try.ntmps72
  go_wp2
  all_goals (first | go_ret | skip)
  all_goals (refine ⟨?_, rfl⟩; simp_all [inB] <;> omega)

set_option maxHeartbeats 400000 in
theorem between_any (n low high : Int) (w : World) :
    Calls Try.prog 67 #[.int .i64 n, .int .i64 low, .int .i64 high] w fun e w' => e = .returned (.bool (inB n low high)) ∧ w = w' := by
  go_enter Try.func67, Try.ntmps67
  go_wp2
  all_goals (first | go_ret | skip)
  all_goals (refine ⟨?_, rfl⟩; simp_all [inB] <;> omega)

end Go.Proofs.Ytemcdmjnokpldaa
/- Differences, part 1: rows of numbers as functions, lessBefore, copyNumbers. -/
namespace Go.Proofs.Ytemcdmjnokpldaa
open Go.RowKit Go.Joins

theorem infoD : (Try.prog.info? 2).map (fun i => (i.zero, i.size, i.bytes)) = some (some (.int .i64 0), 1, 8) := by kernel_rfl
/-- the first n values of f -/
def tab (n : Nat) (f : Nat → Int) : List Value := (List.range n).map fun i => .int .i64 (f i)
theorem tab_len (n : Nat) (f : Nat → Int) : (tab n f).length = n := by simp [tab]
theorem tab_succ (n : Nat) (f : Nat → Int) : tab (n + 1) f = tab n f ++ [.int .i64 (f n)] := by simp [tab, List.range_succ]
theorem tab_at {n i : Nat} (f : Nat → Int) (h : i < n) : (tab n f)[i]? = some (.int .i64 (f i)) := by simp [tab, h]
theorem tab_one (n : Nat) (f : Nat → Int) : ∀ u ∈ tab n f, u.oneCell' = true := by
  intro u hu
  obtain ⟨i, _, rfl⟩ := List.mem_map.1 hu
  rfl
theorem tab_congr {n : Nat} {f g : Nat → Int} (h : ∀ i, i < n → f i = g i) : tab n f = tab n g := by
  unfold tab
  exact List.map_congr_left fun i hi => by rw [h i (List.mem_range.1 hi)]
def D (f : Nat → Int) : Nat → Int := fun i => f (i + 1) - f i
def Dn : Nat → (Nat → Int) → Nat → Int
  | 0, f => f
  | k + 1, f => D (Dn k f)
def Small (M n : Nat) (f : Nat → Int) : Prop := ∀ i, i < n → -(M : Int) ≤ f i ∧ f i ≤ M
theorem Small.D {M n : Nat} {f : Nat → Int} (h : Small M n f) : Small (2 * M) (n - 1) (D f) := by
  intro i hi
  have h1 := h i (by omega)
  have h2 := h (i + 1) (by omega)
  show _ ≤ f (i + 1) - f i ∧ f (i + 1) - f i ≤ _
  omega
theorem Small.Dn {M n : Nat} {f : Nat → Int} (h : Small M n f) : ∀ k, Small (2 ^ k * M) (n - k) (Dn k f)
  | 0 => by rw [Nat.pow_zero, Nat.one_mul]; exact h
  | k + 1 => by
    have := (Small.Dn h k).D
    rw [Nat.pow_succ, show n - (k + 1) = n - k - 1 by omega, show 2 ^ k * 2 * M = 2 * (2 ^ k * M) by rw [Nat.mul_comm (2 ^ k) 2, Nat.mul_assoc]]
    exact this
theorem Small.more {M M' n : Nat} {f : Nat → Int} (h : Small M n f) (hM : M ≤ M') : Small M' n f := fun i hi => by have := h i hi; omega
theorem rdF_all {w : World} {B n n' c : Nat} {A : Option Addr} {f : Nat → Int} (h : Rd w B (.slice A n' c) n 1 (tab n f)) (hn : 0 < n) : ∃ b off, A = some ⟨b, off, none⟩ ∧ b < B ∧ ∀ j, j < n → w.cell? ⟨b, off + j, none⟩ = some (.int .i64 (f j)) := by
  obtain ⟨_, A', c', hv, hc⟩ := h
  injection hv with e1 e2 e3
  subst e1
  obtain ⟨b, off, hA, hb, hcc⟩ := hc (by omega)
  exact ⟨b, off, hA, hb, fun j hj => hcc j _ (tab_at f hj)⟩
theorem own_sl {w : World} {base n size : Nat} {e : TypeId} {v : Value} {cs : List Value} (h : w.ownsRow base e size v n cs) : ∃ A c, v = .slice A n c := by
  obtain ⟨_, A, c, h, _⟩ := Rd.of_own h
  exact ⟨A, c, h⟩
theorem rd_sl {w : World} {B n sz : Nat} {v : Value} {cs : List Value} (h : Rd w B v n sz cs) : ∃ A c, v = .slice A n c := by
  obtain ⟨_, A, c, h, _⟩ := h
  exact ⟨A, c, h⟩
/-- a row of numbers of the call's own is handed back -/
def RetF (w : World) (n : Nat) (f : Nat → Int) (e : Ending) (w' : World) : Prop :=
  ∃ v, e = .returned v ∧ w'.ownsRow w.heap.size 2 1 v n (tab n f) ∧ Below w.heap.size w w'

set_option maxRecDepth 100000 in
set_option maxHeartbeats 1600000 in
theorem lessBefore_any (B : Nat) (v : Value) (n M : Nat) (f : Nat → Int) (w : World) (h : Rd w B v n 1 (tab n f)) (hB : B ≤ w.heap.size) (hn : n ≤ 1000) (hS : Small M n f) (hM : M ≤ 4611686018427387903) :
    Calls Try.prog 147 #[v] w (RetF w (n - 1) (D f)) := by
  have H := Lib.hid h
  have HS := Lib.hid hS
  obtain ⟨A, c, rfl⟩ := rd_sl h
  clear h
  clear hS
  have hb0 := Lib.hid ((Below.refl w.heap.size w).alloc (Nat.le_refl _) (.cells #[] 2))
  have ho0 := Lib.hid (World.ownsRow_made (base := w.heap.size) (e := 2) (size := 1) w #[] 0 (Nat.le_refl _) (by simp [maxLen]) rfl)
  go_enter Try.func147, Try.ntmps147
  go_wp2_with fail
  go_loopw [3, 4] (fun a i wr => ∃ k m : Nat, m + 1 = k ∧ (m = 0 ∨ k ≤ n) ∧ i = .int .i64 (k : Int) ∧ wr.ownsRow w.heap.size 2 1 a m (tab m (D f)) ∧ Below w.heap.size w wr) (fun _ i _ => n + 1 - (intOf i).toNat)
  case atStart => exact ⟨1, 0, rfl, .inl rfl, rfl, ho0.out, hb0.out⟩
  case round =>
    obtain ⟨k, m, hkm, hk, rfl, hown, hbl⟩ := hrel
    obtain ⟨A3, c3, rfl⟩ := own_sl hown
    have Hown := Lib.hid hown
    have Hbl := Lib.hid hbl
    clear hown
    by_cases hlt : k < n
    · obtain ⟨b1, o1, hA, hb1, hcc⟩ := rdF_all (H.out.below (hbl.mono hB)) (by omega)
      subst hA
      have q1 := hcc k hlt
      have q0 := hcc m (by omega)
      have s1 := HS.out k hlt
      have s0 := HS.out m (by omega)
      have HD := Lib.hid (show D f m = f k - f m by rw [← hkm]; rfl)
      have Hsc := Lib.hid (tab_succ m (D f))
      clear hcc
      generalize f k = x at *
      generalize f m = y at *
      have hlt' : (k : Int) < (n : Int) := by omega
      have hm1 : IntKind.i64.wrap ((k : Int) - 1) = (m : Int) := by rw [IntWalk.i64_in _ (by omega)]; omega
      have hm2 : (m : Int) < (n : Int) := by omega
      have hd : IntKind.i64.wrap (x - y) = x - y := IntWalk.i64_in _ (by omega)
      have Hkm := Lib.hid hkm
      have hm3 : m < 1000 := by omega
      clear hbl s1 s0 hkm hk
      go_wp2_with fail
      go_region_law ((first | (refine step_apd 49 2 _ 1 8 Try.underlying49 infoD rfl (by omega) _ _ (by rfl) (by rfl) w.heap.size _ m _ (by rfl) Hown.out #[.int .i64 (x - y)] 1 1 (by rfl) (by rfl) (by simp [Value.oneCell']) (by simp [maxLen]; omega) (by omega) Hbl.out.size ?_; intro v8 w8 hown8 hg8; have Hb8 := Lib.hid (below_apd Hbl.out Hown.out hg8 (Nat.le_refl _) Hbl.out.size); obtain ⟨A8, c8, rfl⟩ := own_sl hown8; have Hown8 := Lib.hid hown8; clear hown8 hg8)))
      all_goals
       (try go_wp2_with fail)
       go_roundw
       case rel => exact ⟨k + 1, m + 1, by rw [Hkm.out], .inr (by omega), by go_num, by rw [Hsc.out, HD.out]; exact Hown8.out, Hb8.out⟩
       case measure => simp [intOf]; omega
    · have hkn : m = n - 1 := by omega
      have hlt' : (n : Int) ≤ (k : Int) := by omega
      subst hkn
      go_wp2_with fail
      go_ret
      exact ⟨_, rfl, Hown.out, Hbl.out⟩
end Go.Proofs.Ytemcdmjnokpldaa
/- Lists of texts: equality on three functions, the room that they take, copies. -/
namespace Go.Proofs.Ytemcdmjnokpldaa
open Go.RowKit Go.Joins

def strs (l : List ByteArray) : List Value := l.map Value.string
theorem strs_at (l : List ByteArray) (k : Nat) (h : k < l.length) : (strs l)[k]? = some (.string l[k]) := by simp [strs, h]
theorem infoSL : (Try.prog.info? 9).map (fun i => (i.zero, i.size, i.bytes)) = some (some (.string ⟨#[]⟩), 1, 16) := by kernel_rfl
theorem take_strs (zs : List ByteArray) (k : Nat) (h : k < zs.length) : strs (zs.take k) ++ [.string zs[k]] = strs (zs.take (k + 1)) := by
  rw [List.take_succ_eq_append_getElem h]; unfold strs; rw [List.map_append]; rfl
theorem rd_at {w : World} {B n c : Nat} {A : Option Addr} {zs : List ByteArray} (h : Rd w B (.slice A n c) zs.length 1 (strs zs)) (k : Nat) (hk : k < zs.length) :
    n = zs.length ∧ ∃ b off, A = some ⟨b, off, none⟩ ∧ w.cell? ⟨b, off + k, none⟩ = some (.string zs[k]) := by
  obtain ⟨_, A', c', hv, hc⟩ := h
  injection hv with e1 e2 e3
  subst e1
  obtain ⟨b, off, hA, _, hcc⟩ := hc (by omega)
  exact ⟨e2, b, off, hA, hcc k _ (strs_at zs k hk)⟩

/-- a new list of the same strings -/
def RetS (w : World) (zs : List ByteArray) (e : Ending) (w' : World) : Prop := ∃ v, e = .returned v ∧ w'.ownsRow w.heap.size 9 1 v zs.length (strs zs) ∧ Below w.heap.size w w'

end Go.Proofs.Ytemcdmjnokpldaa
/- What a law's arguments read as, in the words of the walks: slices of numbers, of bytes. -/
namespace Go.Proofs.Ytemcdmjnokpldaa
open Go.ChangeShapes Go.WideShapes Go.ChangeAt Go.RowKit

section
variable {H : Type} {enc : TypeId × Value → H} {P : Program} {W : World}

theorem rd_ints {T E base : Nat} {k : IntKind} {r : Reach} {v : Value} {d : DataW H} {p : List MemPlace} (hT : P.underlying T = some (.slice E)) (hE : P.underlying E = some (.int k)) (hC : P.cellsOf E = 1)
    (ok : Value.okWide P W r base T v) (h : DataW.Trod enc P W 0 (fun _ => true) true T v d p) :
    ∃ zs : List Int, Rd W W.heap.size v zs.length 1 (zs.map (.int k)) ∧ zs.length ≤ maxLen ∧ ∀ z ∈ zs, (Lit.int k z).wf = true := by
  obtain ⟨a0, len, cap, rfl⟩ := okWide_slice hT ok
  obtain ⟨fuel, hf⟩ := h
  rcases open_ints hT hE hC hf with ⟨hcs, hx⟩ | ⟨a, len', cap', zs, hcs, _, hl, hm, hz, hx, hcell, hwz⟩
  · simp [Value.cells] at hcs
    obtain ⟨rfl, rfl, rfl⟩ := hcs
    exact ⟨[], ⟨rfl, none, 0, rfl, fun h => by simp at h⟩, by simp [maxLen], by simp⟩
  · simp [Value.cells] at hcs
    obtain ⟨rfl, rfl, rfl⟩ := hcs
    have hz' : zs.length = cap := by simpa using hz
    have hlen : (zs.take len).length = len := by rw [List.length_take]; omega
    refine ⟨zs.take len, ?_, by rw [hlen]; omega, fun z hzz => hwz z (List.mem_of_mem_take hzz)⟩
    rw [hlen]
    refine ⟨by simp; omega, some a, cap, rfl, fun hn => ?_⟩
    obtain ⟨b, off, rfl, hc⟩ := ints_at hcell (by omega)
    refine ⟨b, off, rfl, World.block_lt_of_cell? W _ (hc 0 (by omega)), fun i u hu => ?_⟩
    have hi : i < len := by
      have := (List.getElem?_eq_some_iff.1 hu).1
      simp at this; omega
    rw [hc i (by omega), ← hu]
    simp [hi, List.getD, (show i < zs.length by omega)]

theorem rd_bytes {T E base : Nat} {r : Reach} {v : Value} {d : DataW H} {p : List MemPlace} (hT : P.underlying T = some (.slice E)) (hE : P.underlying E = some (.int .u8)) (hC : P.cellsOf E = 1)
    (ok : Value.okWide P W r base T v) (h : DataW.Trod enc P W 0 (fun _ => true) true T v d p) :
    ∃ bs : List UInt8, Rd W W.heap.size v bs.length 1 (bs.map byV) ∧ bs.length ≤ maxLen := by
  obtain ⟨zs, h1, h2, h3⟩ := rd_ints hT hE hC ok h
  refine ⟨zs.map fun z => UInt8.ofNat z.toNat, ?_, by simpa using h2⟩
  have e : (zs.map fun z => UInt8.ofNat z.toNat).map byV = zs.map (.int .u8) := by
    rw [List.map_map]
    refine List.map_congr_left fun z hz => ?_
    have hb := bounds_u8 (h3 z hz)
    simp only [Function.comp, byV, UInt8.toNat_ofNat']
    congr 1
    omega
  rw [e]
  simpa using h1
end
end Go.Proofs.Ytemcdmjnokpldaa
/- What a law's arguments read as: slices of structs, as rows of cells. -/
namespace Go.Proofs.Ytemcdmjnokpldaa
open Go.ChangeShapes Go.WideShapes Go.ChangeAt Go.RowKit

/-- rows of equal width: cell j of row k -/
theorem flat_at {α : Type} (cells : α → List Value) (sz : Nat) (hc : ∀ x, (cells x).length = sz) : ∀ (xs : List α) (k j : Nat) (hk : k < xs.length), j < sz → (xs.flatMap cells)[k * sz + j]? = (cells xs[k])[j]?
  | [], k, j, hk, _ => by simp at hk
  | x :: xs, 0, j, _, hj => by
    rw [List.flatMap_cons, Nat.zero_mul, Nat.zero_add, List.getElem?_append_left (by rw [hc]; exact hj)]; rfl
  | x :: xs, k + 1, j, hk, hj => by
    rw [List.flatMap_cons, List.getElem?_append_right (by rw [hc, Nat.succ_mul]; omega), hc]
    have e : (k + 1) * sz + j - sz = k * sz + j := by rw [Nat.succ_mul]; omega
    rw [e, flat_at cells sz hc xs k j (by simpa using hk) hj]
    simp
theorem flat_len {α : Type} (cells : α → List Value) (sz : Nat) (hc : ∀ x, (cells x).length = sz) : ∀ xs : List α, (xs.flatMap cells).length = xs.length * sz
  | [] => by simp
  | x :: xs => by
    rw [List.flatMap_cons, List.length_append, hc, flat_len cells sz hc xs, List.length_cons, Nat.succ_mul]; omega

section
variable {H : Type} {enc : TypeId × Value → H} {P : Program} {W : World}

theorem rd_rows {α : Type} (cells : α → List Value) (good : α → Prop) {T E base sz : Nat} {r : Reach} {v : Value} {d : DataW H} {p : List MemPlace} (hT : P.underlying T = some (.slice E)) (hC : P.cellsOf E = sz) (hsz : 0 < sz) (hc : ∀ x, (cells x).length = sz)
    (elem : ∀ n cs y, DataW.trod enc P W 0 (fun _ => true) true n E cs = some y → ∃ x, cs = cells x ∧ good x)
    (ok : Value.okWide P W r base T v) (h : DataW.Trod enc P W 0 (fun _ => true) true T v d p) :
    ∃ xs : List α, Rd W W.heap.size v xs.length sz (xs.flatMap cells) ∧ xs.length ≤ maxLen ∧ ∀ x ∈ xs, good x := by
  obtain ⟨a0, len, cap, rfl⟩ := okWide_slice hT ok
  obtain ⟨fuel, hf⟩ := h
  rcases Go.Deep.open_slice hT hf with ⟨hcs, hx⟩ | ⟨a, len', cap', m, n, D, Pl, hcs, _, hl, hm, hmm, hx, hi⟩
  · simp [Value.cells] at hcs
    obtain ⟨rfl, rfl, rfl⟩ := hcs
    exact ⟨[], ⟨by simp, none, 0, rfl, fun h => by simp at h⟩, by simp [maxLen], by simp⟩
  · simp [Value.cells] at hcs
    obtain ⟨rfl, rfl, rfl⟩ := hcs
    have hm' : m = cap := by simpa using hmm
    subst hm'
    have hel : ∀ i : Nat, i < m → ∃ x, good x ∧ W.cells? 0 (a.add (i * sz)) sz = some (cells x) := fun i hi' => by
      obtain ⟨cs', h1, h2⟩ := hi i hi'
      obtain ⟨x, rfl, hg⟩ := elem _ _ _ h2
      rw [hC] at h1
      exact ⟨x, hg, h1⟩
    have hch : ∃ f : Fin len → α, ∀ i : Fin len, good (f i) ∧ W.cells? 0 (a.add (i * sz)) sz = some (cells (f i)) :=
      ⟨fun i => Classical.choose (hel i (by have := i.2; omega)), fun i => Classical.choose_spec (hel i (by have := i.2; omega))⟩
    obtain ⟨f, hff⟩ := hch
    have hlen : (List.ofFn f).length = len := List.length_ofFn
    refine ⟨List.ofFn f, ?_, by rw [hlen]; omega, fun x hx => ?_⟩
    · rw [hlen]
      refine ⟨by rw [flat_len cells sz hc, hlen], some a, m, rfl, fun hn => ?_⟩
      have hl0 : 0 < len := by
        rcases Nat.eq_zero_or_pos len with h | h
        · subst h; simp at hn
        · exact h
      have hcell : ∀ (k : Nat) (hk : k < len) (j : Nat), j < sz → W.cell? ((a.add (k * sz)).add j) = (cells (f ⟨k, hk⟩))[j]? := fun k hk j hj =>
        (World.cells?_some (hff ⟨k, hk⟩).2).2.2 j hj
      obtain ⟨b, off, spot⟩ := a
      have h00 := hcell 0 hl0 0 hsz
      rw [List.getElem?_eq_getElem (by rw [hc]; exact hsz)] at h00
      have hspot : spot = none := by simpa [Addr.add] using World.cell?_spot h00
      subst hspot
      have hadd : ∀ k j, ((⟨b, off, none⟩ : Addr).add (k * sz)).add j = ⟨b, off + (k * sz + j), none⟩ := fun k j => by
        rw [Go.WideShapes.add_plain, Go.WideShapes.add_plain, Nat.add_assoc]
      rw [hadd] at h00
      refine ⟨b, off, rfl, World.block_lt_of_cell? W _ h00, fun i u hu => ?_⟩
      have hil : i < len * sz := by
        have := (List.getElem?_eq_some_iff.1 hu).1
        rwa [flat_len cells sz hc, hlen] at this
      have hk : i / sz < len := by rw [Nat.div_lt_iff_lt_mul hsz]; exact hil
      have hj : i % sz < sz := Nat.mod_lt _ hsz
      have hdm : i / sz * sz + i % sz = i := by rw [Nat.mul_comm]; exact Nat.div_add_mod i sz
      have h1 := hcell (i / sz) hk (i % sz) hj
      rw [hadd, hdm] at h1
      have h2 := flat_at cells sz hc (List.ofFn f) (i / sz) (i % sz) (by rw [hlen]; exact hk) hj
      rw [hdm, List.getElem_ofFn] at h2
      rw [h1, ← h2, hu]
    · obtain ⟨i, rfl⟩ := List.mem_ofFn.1 hx
      exact (hff i).1
end
end Go.Proofs.Ytemcdmjnokpldaa
/- Entries, part 1: how lists of entries lie; the exact laws' helpers. -/
namespace Go.Proofs.Ytemcdmjnokpldaa
open Go.RowKit Go.Joins

structure Ent where
  num : Int
  name : ByteArray
  maker : ByteArray
  year : Int
  words : List ByteArray
deriving DecidableEq

/-- an entry's cells; the second part is the value of its words -/
def cellsE (x : Ent × Value) : List Value := [.int .i64 x.1.num, .string x.1.name, .string x.1.maker, .int .i64 x.1.year, x.2]
def RdW (w : World) (B : Nat) (y : Ent × Value) : Prop := Rd w B y.2 y.1.words.length 1 (strs y.1.words)
/-- THE READING OF A LIST OF ENTRIES -/
def RdE (w : World) (B : Nat) (v : Value) (xs : List Ent) : Prop :=
  ∃ ys : List (Ent × Value), ys.map (·.1) = xs ∧ Rd w B v xs.length 5 (ys.flatMap cellsE) ∧ ∀ y ∈ ys, RdW w B y
theorem RdE.below {w w' : World} {B : Nat} {v : Value} {xs : List Ent} (h : RdE w B v xs) (hb : Below B w w') : RdE w' B v xs := by
  obtain ⟨ys, h1, h2, h3⟩ := h
  exact ⟨ys, h1, h2.below hb, fun y hy => (h3 y hy).below hb⟩
theorem RdE.more {w : World} {B B' : Nat} {v : Value} {xs : List Ent} (h : RdE w B v xs) (hB : B ≤ B') : RdE w B' v xs := by
  obtain ⟨ys, h1, h2, h3⟩ := h
  exact ⟨ys, h1, h2.more hB, fun y hy => (h3 y hy).more hB⟩
theorem RdE.next {w w' : World} {v : Value} {xs : List Ent} (h : RdE w w.heap.size v xs) (hb : Below w.heap.size w w') : RdE w' w'.heap.size v xs := (h.below hb).more hb.size
theorem RdE.drewN {w : World} {B : Nat} {v : Value} {xs : List Ent} (h : RdE w B v xs) (n : Nat) : RdE (w.drewN n) B v xs := h
theorem RdE.slice {w : World} {B : Nat} {v : Value} {xs : List Ent} (h : RdE w B v xs) : ∃ A c, v = .slice A xs.length c := by
  obtain ⟨ys, h1, ⟨_, A, c, h2, _⟩, h3⟩ := h
  exact ⟨A, c, h2⟩

/-- the five cells of an entry -/
structure EntAt (w : World) (B b o : Nat) (x : Ent) (A : Option Addr) (c : Nat) : Prop where
  lt : b < B
  c0 : w.cell? ⟨b, o, none⟩ = some (.int .i64 x.num)
  c1 : w.cell? ⟨b, o + 1, none⟩ = some (.string x.name)
  c2 : w.cell? ⟨b, o + 2, none⟩ = some (.string x.maker)
  c3 : w.cell? ⟨b, o + 3, none⟩ = some (.int .i64 x.year)
  c4 : w.cell? ⟨b, o + 4, none⟩ = some (.slice A x.words.length c)
  words : Rd w B (.slice A x.words.length c) x.words.length 1 (strs x.words)
theorem EntAt.below {w w' : World} {B b o c : Nat} {x : Ent} {A : Option Addr} (h : EntAt w B b o x A c) (hb : Below B w w') : EntAt w' B b o x A c :=
  ⟨h.lt, (hb.cell (p := ⟨b, o, none⟩) h.lt).trans h.c0, (hb.cell (p := ⟨b, o + 1, none⟩) h.lt).trans h.c1, (hb.cell (p := ⟨b, o + 2, none⟩) h.lt).trans h.c2, (hb.cell (p := ⟨b, o + 3, none⟩) h.lt).trans h.c3, (hb.cell (p := ⟨b, o + 4, none⟩) h.lt).trans h.c4, h.words.below hb⟩
theorem EntAt.drewN {w : World} {B b o c : Nat} {x : Ent} {A : Option Addr} (h : EntAt w B b o x A c) (n : Nat) : EntAt (w.drewN n) B b o x A c := ⟨h.1, h.2, h.3, h.4, h.5, h.6, h.7⟩

theorem RdE.at {w : World} {B n c : Nat} {A : Option Addr} {xs : List Ent} (h : RdE w B (.slice A n c) xs) (k : Nat) (hk : k < xs.length) :
    ∃ b off A' c', A = some ⟨b, off, none⟩ ∧ EntAt w B b (off + k * 5) xs[k] A' c' := by
  obtain ⟨ys, h1, ⟨_, A0, c0, hv, hc⟩, h3⟩ := h
  subst h1
  injection hv with e1 e2 e3
  subst e1
  rw [List.length_map] at hk hc
  obtain ⟨b, off, hA, hb, hcc⟩ := hc (by omega)
  have hw := h3 ys[k] (List.getElem_mem hk)
  obtain ⟨_, A', c', hv', _⟩ := id hw
  have hx : (ys.map (·.1))[k]'(by simpa using hk) = ys[k].1 := by simp
  rw [hx]
  have hat : ∀ j u, j < 5 → (cellsE ys[k])[j]? = some u → w.cell? ⟨b, off + k * 5 + j, none⟩ = some u := fun j u hj hu => by
    have := hcc (k * 5 + j) u ((flat_at cellsE 5 (fun _ => rfl) ys k j hk hj).trans hu)
    rwa [← Nat.add_assoc] at this
  refine ⟨b, off, A', c', hA, ⟨hb, hat 0 _ (by omega) rfl, hat 1 _ (by omega) rfl, hat 2 _ (by omega) rfl, hat 3 _ (by omega) rfl, ?_, ?_⟩⟩
  · rw [← hv']; exact hat 4 _ (by omega) rfl
  · rw [← hv']; exact hw

/-- five cells of a block that is the call's own -/
theorem blk5 {w : World} {g : Nat} {a b c d e : Value} {t : TypeId} (h : w.heap[g]? = some (.cells #[a, b, c, d, e] t (0, 0))) :
    w.cell? ⟨g, 0, none⟩ = some a ∧ w.cell? ⟨g, 1, none⟩ = some b ∧ w.cell? ⟨g, 2, none⟩ = some c ∧ w.cell? ⟨g, 3, none⟩ = some d ∧ w.cell? ⟨g, 4, none⟩ = some e ∧ ∀ i, w.frozen? ⟨g, i, none⟩ = false := by
  refine ⟨?_, ?_, ?_, ?_, ?_, fun i => ?_⟩
  · rw [cell_of_row w g 0 _ _ _ h]; rfl
  · rw [cell_of_row w g 1 _ _ _ h]; rfl
  · rw [cell_of_row w g 2 _ _ _ h]; rfl
  · rw [cell_of_row w g 3 _ _ _ h]; rfl
  · rw [cell_of_row w g 4 _ _ _ h]; rfl
  · exact frozen_of_row w g i _ _ h

end Go.Proofs.Ytemcdmjnokpldaa
/- Entries, part 2: copies, equality and room of lists of entries; the reading of an argument. -/
namespace Go.Proofs.Ytemcdmjnokpldaa
open Go.RowKit Go.Joins

theorem set5 (l r : List Value) (n : Nat) (hn : l.length = n) (hr : 5 ≤ r.length) (a b c d e : Value) :
    (((((l ++ r).set n a).set (n + 1) b).set (n + 2) c).set (n + 3) d).set (n + 4) e = (l ++ [a, b, c, d, e]) ++ r.drop 5 := by
  subst hn
  match r, hr with
  | x0 :: x1 :: x2 :: x3 :: x4 :: r, _ =>
    rw [List.set_append_right _ _ (Nat.le_refl _), List.set_append_right _ _ (by omega), List.set_append_right _ _ (by omega), List.set_append_right _ _ (by omega), List.set_append_right _ _ (by omega)]
    simp

theorem Rd.of_own' {w : World} {base : Nat} {e : TypeId} {sz n : Nat} {v : Value} {cs : List Value} (h : w.ownsRow base e sz v n cs) : Rd w w.heap.size v n sz cs := Rd.of_own h

end Go.Proofs.Ytemcdmjnokpldaa
/- Entries, part 3: equality and room of entries; the reading of an argument. -/
namespace Go.Proofs.Ytemcdmjnokpldaa
open Go.RowKit Go.Joins

/-- an entry as a value -/
abbrev aggE (x : Ent) (A : Option Addr) (c : Nat) : Value := .agg #[.int .i64 x.num, .string x.name, .string x.maker, .int .i64 x.year, .slice A x.words.length c]

/-- the ten cells of two entries -/
theorem EntAt.ten {w : World} {B1 B2 b1 o1 b2 o2 c1 c2 : Nat} {x y : Ent} {A1 A2 : Option Addr} (h : EntAt w B1 b1 o1 x A1 c1) (k : EntAt w B2 b2 o2 y A2 c2) :
    w.cell? ⟨b1, o1, none⟩ = some (.int .i64 x.num) ∧ w.cell? ⟨b1, o1 + 1, none⟩ = some (.string x.name) ∧ w.cell? ⟨b1, o1 + 2, none⟩ = some (.string x.maker) ∧ w.cell? ⟨b1, o1 + 3, none⟩ = some (.int .i64 x.year) ∧ w.cell? ⟨b1, o1 + 4, none⟩ = some (.slice A1 x.words.length c1) ∧
    w.cell? ⟨b2, o2, none⟩ = some (.int .i64 y.num) ∧ w.cell? ⟨b2, o2 + 1, none⟩ = some (.string y.name) ∧ w.cell? ⟨b2, o2 + 2, none⟩ = some (.string y.maker) ∧ w.cell? ⟨b2, o2 + 3, none⟩ = some (.int .i64 y.year) ∧ w.cell? ⟨b2, o2 + 4, none⟩ = some (.slice A2 y.words.length c2) :=
  ⟨h.c0, h.c1, h.c2, h.c3, h.c4, k.c0, k.c1, k.c2, k.c3, k.c4⟩

/-- all that an argument's entries are -/
def lenE (x : Ent) : Prop := x.name.size ≤ maxLen ∧ x.maker.size ≤ maxLen ∧ x.words.length ≤ maxLen ∧ ∀ z ∈ x.words, z.size ≤ maxLen
/-- small enough -/
def smE (x : Ent) : Prop := x.name.size ≤ 1048576 ∧ x.maker.size ≤ 1048576 ∧ x.words.length ≤ 1048576 ∧ ∀ z ∈ x.words, z.size ≤ 1048576
def SzE (x : Ent) (left : Int) (w : World) (e : Ending) (w' : World) : Prop := ∃ r : Int, e = .returned (.int .i64 r) ∧ r ≤ left ∧ (0 ≤ r → smE x) ∧ Below w.heap.size w w'

def SzEs (xs : List Ent) (left : Int) (w : World) (e : Ending) (w' : World) : Prop := ∃ r : Int, e = .returned (.int .i64 r) ∧ r ≤ left ∧ (0 ≤ r → xs.length ≤ 1048576 ∧ ∀ x ∈ xs, smE x) ∧ Below w.heap.size w w'
end Go.Proofs.Ytemcdmjnokpldaa
/- Entries, part 4: SameEntries on both sides. -/
namespace Go.Proofs.Ytemcdmjnokpldaa
open Go.RowKit Go.Joins

/-- where two entries part first -/
theorem ent_cases (x y : Ent) : x = y ∨
    (x ≠ y ∧ ((x.num != y.num) = true ∨ (x.num = y.num ∧ (x.name.toList != y.name.toList) = true ∧ (x.name.toList == y.name.toList) = false) ∨ (x.num = y.num ∧ x.name = y.name ∧ (x.maker.toList != y.maker.toList) = true ∧ (x.maker.toList == y.maker.toList) = false) ∨
      (x.num = y.num ∧ x.name = y.name ∧ x.maker = y.maker ∧ (x.year != y.year) = true) ∨ (x.num = y.num ∧ x.name = y.name ∧ x.maker = y.maker ∧ x.year = y.year ∧ decide (x.words = y.words) = false))) := by
  have hbn : ∀ a b : ByteArray, a ≠ b → (a.toList != b.toList) = true ∧ (a.toList == b.toList) = false := fun a b h =>
    ⟨bne_iff_ne.2 fun e => h (ba_inj e), beq_eq_false_iff_ne.2 fun e => h (ba_inj e)⟩
  by_cases h : x = y
  · exact .inl h
  · refine .inr ⟨h, ?_⟩
    by_cases h1 : x.num = y.num
    · by_cases h2 : x.name = y.name
      · by_cases h3 : x.maker = y.maker
        · by_cases h4 : x.year = y.year
          · refine .inr (.inr (.inr (.inr ⟨h1, h2, h3, h4, ?_⟩)))
            rw [decide_eq_false_iff_not]
            intro h5
            exact h (by obtain ⟨a, b, c, d, e⟩ := x; obtain ⟨a', b', c', d', e'⟩ := y; simp_all)
          · exact .inr (.inr (.inr (.inl ⟨h1, h2, h3, bne_iff_ne.2 h4⟩)))
        · exact .inr (.inr (.inl ⟨h1, h2, hbn _ _ h3⟩))
      · exact .inr (.inl ⟨h1, hbn _ _ h2⟩)
    · exact .inl (bne_iff_ne.2 h1)

theorem ents_bad {xs ys : List Ent} (k : Nat) (hx : k < xs.length) (hy : k < ys.length) (h : xs[k] ≠ ys[k]) : decide (xs = ys) = false := by
  rw [decide_eq_false_iff_not]
  intro e
  subst e
  exact h rfl
theorem ents_step {xs ys : List Ent} (k : Nat) (hx : k < xs.length) (hy : k < ys.length) (h0 : xs.take k = ys.take k) (h : xs[k] = ys[k]) : xs.take (k + 1) = ys.take (k + 1) := by
  rw [List.take_succ_eq_append_getElem hx, List.take_succ_eq_append_getElem hy, h0, h]

end Go.Proofs.Ytemcdmjnokpldaa
/- Loans, part 1: how lists of loans lie; one loan's size and copy. -/
namespace Go.Proofs.Ytemcdmjnokpldaa
open Go.RowKit Go.Joins

structure Ln where
  what : ByteArray
  who : ByteArray
  from_ : Int
  till : Int
deriving DecidableEq
def cellsL (x : Ln) : List Value := [.string x.what, .string x.who, .int .i64 x.from_, .int .i64 x.till]
abbrev aggL (x : Ln) : Value := .agg #[.string x.what, .string x.who, .int .i64 x.from_, .int .i64 x.till]
/-- the reading of a list of loans -/
def RdL (w : World) (B : Nat) (v : Value) (xs : List Ln) : Prop := Rd w B v xs.length 4 (xs.flatMap cellsL)
theorem RdL.below {w w' : World} {B : Nat} {v : Value} {xs : List Ln} (h : RdL w B v xs) (hb : Below B w w') : RdL w' B v xs := Rd.below h hb
theorem RdL.more {w : World} {B B' : Nat} {v : Value} {xs : List Ln} (h : RdL w B v xs) (hB : B ≤ B') : RdL w B' v xs := Rd.more h hB
theorem RdL.next {w w' : World} {v : Value} {xs : List Ln} (h : RdL w w.heap.size v xs) (hb : Below w.heap.size w w') : RdL w' w'.heap.size v xs := (h.below hb).more hb.size
theorem RdL.drewN {w : World} {B : Nat} {v : Value} {xs : List Ln} (h : RdL w B v xs) (n : Nat) : RdL (w.drewN n) B v xs := h
theorem RdL.slice {w : World} {B : Nat} {v : Value} {xs : List Ln} (h : RdL w B v xs) : ∃ A c, v = .slice A xs.length c := by
  obtain ⟨_, A, c, h2, _⟩ := h
  exact ⟨A, c, h2⟩
/-- the four cells of a loan -/
structure LnAt (w : World) (B b o : Nat) (x : Ln) : Prop where
  lt : b < B
  c0 : w.cell? ⟨b, o, none⟩ = some (.string x.what)
  c1 : w.cell? ⟨b, o + 1, none⟩ = some (.string x.who)
  c2 : w.cell? ⟨b, o + 2, none⟩ = some (.int .i64 x.from_)
  c3 : w.cell? ⟨b, o + 3, none⟩ = some (.int .i64 x.till)
theorem LnAt.below {w w' : World} {B b o : Nat} {x : Ln} (h : LnAt w B b o x) (hb : Below B w w') : LnAt w' B b o x :=
  ⟨h.lt, (hb.cell (p := ⟨b, o, none⟩) h.lt).trans h.c0, (hb.cell (p := ⟨b, o + 1, none⟩) h.lt).trans h.c1, (hb.cell (p := ⟨b, o + 2, none⟩) h.lt).trans h.c2, (hb.cell (p := ⟨b, o + 3, none⟩) h.lt).trans h.c3⟩
theorem LnAt.drewN {w : World} {B b o : Nat} {x : Ln} (h : LnAt w B b o x) (n : Nat) : LnAt (w.drewN n) B b o x := ⟨h.1, h.2, h.3, h.4, h.5⟩
theorem RdL.at {w : World} {B n c : Nat} {A : Option Addr} {xs : List Ln} (h : RdL w B (.slice A n c) xs) (k : Nat) (hk : k < xs.length) :
    ∃ b off, A = some ⟨b, off, none⟩ ∧ LnAt w B b (off + k * 4) xs[k] := by
  obtain ⟨_, A0, c0, hv, hc⟩ := h
  injection hv with e1 e2 e3
  subst e1
  obtain ⟨b, off, hA, hb, hcc⟩ := hc (by omega)
  have hat : ∀ j u, j < 4 → (cellsL xs[k])[j]? = some u → w.cell? ⟨b, off + k * 4 + j, none⟩ = some u := fun j u hj hu => by
    have := hcc (k * 4 + j) u ((flat_at cellsL 4 (fun _ => rfl) xs k j hk hj).trans hu)
    rwa [← Nat.add_assoc] at this
  exact ⟨b, off, hA, ⟨hb, hat 0 _ (by omega) rfl, hat 1 _ (by omega) rfl, hat 2 _ (by omega) rfl, hat 3 _ (by omega) rfl⟩⟩
def lenL (x : Ln) : Prop := x.what.size ≤ maxLen ∧ x.who.size ≤ maxLen
def smL (x : Ln) : Prop := x.what.size ≤ 1048576 ∧ x.who.size ≤ 1048576
def SzL (x : Ln) (left : Int) (w : World) (e : Ending) (w' : World) : Prop := ∃ r : Int, e = .returned (.int .i64 r) ∧ r ≤ left ∧ (0 ≤ r → smL x) ∧ Below w.heap.size w w'
end Go.Proofs.Ytemcdmjnokpldaa
/- Loans, part 2: sizes of lists, one loan's copy and equality. -/
namespace Go.Proofs.Ytemcdmjnokpldaa
open Go.RowKit Go.Joins

def SzLs (xs : List Ln) (left : Int) (w : World) (e : Ending) (w' : World) : Prop := ∃ r : Int, e = .returned (.int .i64 r) ∧ r ≤ left ∧ (0 ≤ r → xs.length ≤ 1048576 ∧ ∀ x ∈ xs, smL x) ∧ Below w.heap.size w w'
end Go.Proofs.Ytemcdmjnokpldaa
/- Loans, part 3: lists of loans copied and compared. -/
namespace Go.Proofs.Ytemcdmjnokpldaa
open Go.RowKit Go.Joins

theorem set4 (l r : List Value) (n : Nat) (hn : l.length = n) (hr : 4 ≤ r.length) (a b c d : Value) :
    ((((l ++ r).set n a).set (n + 1) b).set (n + 2) c).set (n + 3) d = (l ++ [a, b, c, d]) ++ r.drop 4 := by
  subst hn
  match r, hr with
  | x0 :: x1 :: x2 :: x3 :: r, _ =>
    rw [List.set_append_right _ _ (Nat.le_refl _), List.set_append_right _ _ (by omega), List.set_append_right _ _ (by omega), List.set_append_right _ _ (by omega)]
    simp

end Go.Proofs.Ytemcdmjnokpldaa
/- Loans, part 4: lists of loans compared. -/
namespace Go.Proofs.Ytemcdmjnokpldaa
open Go.RowKit Go.Joins

def EightC (w : World) (b1 o1 b2 o2 : Nat) (a b : ByteArray) (f t : Int) : Prop :=
  w.cell? ⟨b1, o1, none⟩ = some (.string a) ∧ w.cell? ⟨b1, o1 + 1, none⟩ = some (.string b) ∧ w.cell? ⟨b1, o1 + 2, none⟩ = some (.int .i64 f) ∧ w.cell? ⟨b1, o1 + 3, none⟩ = some (.int .i64 t) ∧ w.cell? ⟨b2, o2, none⟩ = some (.string a) ∧ w.cell? ⟨b2, o2 + 1, none⟩ = some (.string b) ∧ w.cell? ⟨b2, o2 + 2, none⟩ = some (.int .i64 f) ∧ w.cell? ⟨b2, o2 + 3, none⟩ = some (.int .i64 t)
theorem eight_cells {W w1 : World} {b1 o1 b2 o2 : Nat} {a b : ByteArray} {f t : Int} (hb : Below W.heap.size W w1) (h : EightC W b1 o1 b2 o2 a b f t) : EightC w1 b1 o1 b2 o2 a b f t :=
  have k {p : Addr} {v : Value} (h : W.cell? p = some v) : w1.cell? p = some v := (hb.cell (World.block_lt_of_cell? W _ h)).trans h
  ⟨k h.1, k h.2.1, k h.2.2.1, k h.2.2.2.1, k h.2.2.2.2.1, k h.2.2.2.2.2.1, k h.2.2.2.2.2.2.1, k h.2.2.2.2.2.2.2⟩

end Go.Proofs.Ytemcdmjnokpldaa
/- Loans, part 5: the reading of an argument. -/
namespace Go.Proofs.Ytemcdmjnokpldaa
open Go.ChangeShapes Go.WideShapes Go.ChangeAt Go.RowKit

end Go.Proofs.Ytemcdmjnokpldaa
/- Names: IsName on both sides. -/
namespace Go.Proofs.Ytemcdmjnokpldaa
open Go.RowKit Go.Joins

def smC (c : Nat) : Bool := decide (97 ≤ c) && decide (c ≤ 122)
def dgC (c : Nat) : Bool := decide (48 ≤ c) && decide (c ≤ 57)
def okC (c : Nat) : Bool := smC c || dgC c || decide (c = 45)
/-- a name -/
def isNm (l : List UInt8) : Bool := match l with
  | [] => false
  | c :: t => decide (t.length < 12) && smC c.toNat && (c :: t).all fun c => okC c.toNat
theorem isNm_nil : isNm [] = false := rfl
theorem isNm_cons (c : UInt8) (t : List UInt8) : isNm (c :: t) = (decide (t.length < 12) && smC c.toNat && (c :: t).all fun c => okC c.toNat) := rfl
theorem isNm_long (l : List UInt8) (h : 12 < l.length) : isNm l = false := by
  cases l with
  | nil => rfl
  | cons c t =>
    have : ¬ t.length < 12 := by simp at h; omega
    simp [isNm, this]
theorem isNm_bad (l : List UInt8) (k : Nat) (hk : k < l.length) (h : okC l[k].toNat = false) : isNm l = false := by
  cases l with
  | nil => rfl
  | cons c t =>
    have : ((c :: t).all fun c => okC c.toNat) = false := by
      rw [List.all_eq_false]
      exact ⟨_, List.getElem_mem hk, by simp [h]⟩
    rw [isNm_cons, this, Bool.and_false]
theorem isNm_first (l : List UInt8) (hk : 0 < l.length) (h : smC l[0].toNat = false) : isNm l = false := by
  cases l with
  | nil => rfl
  | cons c t => simp at h; simp [isNm, h]
theorem isNm_yes (l : List UInt8) (hk : 0 < l.length) (hk2 : l.length ≤ 12) (h : smC l[0].toNat = true) (ha : (l.all fun c => okC c.toNat) = true) : isNm l = true := by
  cases l with
  | nil => simp at hk
  | cons c t =>
    simp only [List.length_cons] at hk2
    have : t.length < 12 := by omega
    simp at h
    rw [isNm_cons, ha, h]
    simp [this]
theorem all_step (l : List UInt8) (k : Nat) (hk : k < l.length) (h0 : ((l.take k).all fun c => okC c.toNat) = true) (h : okC l[k].toNat = true) : ((l.take (k + 1)).all fun c => okC c.toNat) = true := by
  rw [List.take_succ_eq_append_getElem hk, List.all_append, h0]
  simp [h]
theorem chr_cases (x : Nat) : (smC x = true ∧ 97 ≤ x ∧ x ≤ 122) ∨ (smC x = false ∧ dgC x = true ∧ 48 ≤ x ∧ x ≤ 57) ∨ (smC x = false ∧ dgC x = false ∧ x = 45) ∨ (smC x = false ∧ dgC x = false ∧ x ≠ 45 ∧ x < 97) ∨ (smC x = false ∧ dgC x = false ∧ x ≠ 45 ∧ 122 < x) := by
  simp only [smC, dgC, Bool.and_eq_true, Bool.and_eq_false_iff, decide_eq_true_eq, decide_eq_false_iff_not]
  omega

theorem isDigit_any (x : Nat) (w : World) :
    Calls Try.prog 152 #[.int .u8 (x : Int)] w fun e w' => e = .returned (.bool (dgC x)) ∧ w = w' := by
  by_cases h1 : 48 ≤ x
  · by_cases h2 : x ≤ 57
    all_goals
      have e1 := Lib.hid (show dgC x = decide (x ≤ 57) by simp [dgC, h1])
      go_enter Try.func152, Try.ntmps152
      go_wp2
      go_ret
      rw [e1.out]; simp [h2] <;> omega
  · have e1 := Lib.hid (show dgC x = false by simp [dgC, h1])
    have h1' : (x : Int) < 48 := by omega
    go_enter Try.func152, Try.ntmps152
    go_wp2
    go_ret
    rw [e1.out]; exact ⟨rfl, rfl⟩
theorem l01Small_any (x : Nat) (w : World) :
    Calls Try.prog 164 #[.int .u8 (x : Int)] w fun e w' => e = .returned (.bool (smC x)) ∧ w = w' := by
  by_cases h1 : 97 ≤ x
  · by_cases h2 : x ≤ 122
    all_goals
      have e1 := Lib.hid (show smC x = decide (x ≤ 122) by simp [smC, h1])
      go_enter Try.func164, Try.ntmps164
      go_wp2
      go_ret
      rw [e1.out]; simp [h2] <;> omega
  · have e1 := Lib.hid (show smC x = false by simp [smC, h1])
    have h1' : (x : Int) < 97 := by omega
    go_enter Try.func164, Try.ntmps164
    go_wp2
    go_ret
    rw [e1.out]; exact ⟨rfl, rfl⟩
theorem l01Digit_any (x : Nat) (w : World) :
    Calls Try.prog 165 #[.int .u8 (x : Int)] w fun e w' => e = .returned (.bool (dgC x)) ∧ w = w' := by
  by_cases h1 : 48 ≤ x
  · by_cases h2 : x ≤ 57
    all_goals
      have e1 := Lib.hid (show dgC x = decide (x ≤ 57) by simp [dgC, h1])
      go_enter Try.func165, Try.ntmps165
      go_wp2
      go_ret
      rw [e1.out]; simp [h2] <;> omega
  · have e1 := Lib.hid (show dgC x = false by simp [dgC, h1])
    have h1' : (x : Int) < 48 := by omega
    go_enter Try.func165, Try.ntmps165
    go_wp2
    go_ret
    rw [e1.out]; exact ⟨rfl, rfl⟩
end Go.Proofs.Ytemcdmjnokpldaa
/- Names, part 2: the walks of IsName. -/
namespace Go.Proofs.Ytemcdmjnokpldaa
open Go.RowKit Go.Joins

theorem okC_sm {x : Nat} (h : smC x = true) : okC x = true := by simp [okC, h]
theorem okC_dg {x : Nat} (h : dgC x = true) : okC x = true := by simp [okC, h]
theorem okC_da {x : Nat} (h : x = 45) : okC x = true := by simp [okC, h]
theorem okC_no {x : Nat} (h : smC x = false) (h2 : dgC x = false) (h3 : x ≠ 45) : okC x = false := by simp [okC, h, h2, h3]

set_option maxRecDepth 100000 in
set_option maxHeartbeats 1600000 in
theorem IsNameI_any (s : ByteArray) (w : World) (hs : s.size ≤ 1048576) :
    Calls Try.prog 116 #[.string s] w fun e w' => e = .returned (.bool (isNm s.data.toList)) ∧ w = w' := by
  have hsz : s.data.toList.length = s.size := by simp
  have Hsz := Lib.hid hsz; clear hsz
  by_cases h0 : s.size = 0
  · have hfin := Lib.hid (show isNm s.data.toList = false by
      have he : s.data.toList = [] := List.eq_nil_of_length_eq_zero (by rw [Hsz.out, h0])
      rw [he]; rfl)
    have hq : ((s.size : Int) == 0) = true := by simp [h0]
    clear h0
    go_enter Try.func116, Try.ntmps116
    go_wp2_with fail
    go_ret
    rw [hfin.out]; exact ⟨rfl, rfl⟩
  · have hq : ((s.size : Int) == 0) = false := by simpa using h0
    by_cases h12 : 12 < s.size
    · have hfin := Lib.hid (isNm_long s.data.toList (by rw [Hsz.out]; exact h12))
      have hq2 : (12 : Int) < (s.size : Int) := by omega
      clear h0
      go_enter Try.func116, Try.ntmps116
      go_wp2_with fail
      go_ret
      rw [hfin.out]; exact ⟨rfl, rfl⟩
    · have hq2 : (s.size : Int) ≤ 12 := by omega
      have hp : 0 < s.data.toList.length := by rw [Hsz.out]; omega
      have Hp := Lib.hid hp
      go_enter Try.func116, Try.ntmps116
      go_wp2_with fail
      go_loop [15] (fun i => ∃ k : Nat, k ≤ s.size ∧ ((s.data.toList.take k).all fun c => okC c.toNat) = true ∧ (0 < k → smC (s.data.toList[0]'hp).toNat = true) ∧ i = .int .i64 k) (fun i => s.size - (intOf i).toNat)
      case atStart => exact ⟨0, Nat.zero_le _, rfl, by omega, rfl⟩
      case round =>
        obtain ⟨k, hk, hall, hfst, rfl⟩ := hrel
        have Hall := Lib.hid hall; clear hall
        have Hfst := Lib.hid hfst; clear hfst
        by_cases hlt : k < s.size
        · have hkl : k < s.data.toList.length := by rw [Hsz.out]; exact hlt
          have Hbad := Lib.hid (show okC s[k].toNat = false → isNm s.data.toList = false from fun h => isNm_bad s.data.toList k hkl h)
          have Hst := Lib.hid (show okC s[k].toNat = true → ((s.data.toList.take (k + 1)).all fun c => okC c.toNat) = true from fun h => all_step s.data.toList k hkl Hall.out h)
          have Hfk := Lib.hid (show smC s[k].toNat = true → smC (s.data.toList[0]'hp).toNat = true from fun h => by
            by_cases hk0 : k = 0
            · subst hk0; exact h
            · exact Hfst.out (by omega))
          have Hf0 := Lib.hid (show k = 0 → smC s[k].toNat = false → isNm s.data.toList = false from fun h h2 => isNm_first s.data.toList hp (by subst h; exact h2))
          have hx8 := s[k].toNat_lt
          have hx9 : (s[k].toNat : Int) < 256 := by omega
          have HD := Lib.hid (fun wx => isDigit_any s[k].toNat wx)
          clear hx8
          have hlt' : (k : Int) < (s.size : Int) := by omega
          by_cases hk0 : k = 0
          · have hqk : ((k : Int) == 0) = true := by simp [hk0]
            rcases chr_cases s[k].toNat with ⟨c1, c2, c3⟩ | ⟨c1, c2, c3, c4⟩ | ⟨c1, c2, c3⟩ | ⟨c1, c2, c3, c4⟩ | ⟨c1, c2, c3, c4⟩
            · have hst := Lib.hid (Hst.out (okC_sm c1))
              have hf := Lib.hid (Hfk.out c1)
              clear Hbad Hst Hfk Hf0 c1 hk0
              have d1 : (97 : Int) ≤ (s[k].toNat : Int) := by omega
              have d2 : (s[k].toNat : Int) ≤ 122 := by omega
              go_wp2_with fail
              go_round
              case rel => exact ⟨k + 1, by omega, hst.out, fun _ => hf.out, by go_num⟩
              case measure => simp [intOf]; omega
            all_goals
              have hfin := Lib.hid (Hf0.out hk0 c1)
              clear Hbad Hst Hfk Hf0 c1 c2 hk0
              rcases Nat.lt_or_ge s[k].toNat 97 with d0 | d0
              · first
                | (exfalso; omega)
                | (have d1 : (s[k].toNat : Int) < 97 := by omega
                   go_wp2_with fail
                   go_ret
                   rw [hfin.out]; exact ⟨rfl, rfl⟩)
              · first
                | (exfalso; omega)
                | (have d1 : (97 : Int) ≤ (s[k].toNat : Int) := by omega
                   have d2 : decide ((s[k].toNat : Int) ≤ 122) = false := by rw [decide_eq_false_iff_not]; omega
                   go_wp2_with fail
                   go_ret
                   rw [hfin.out]; exact ⟨rfl, rfl⟩)
          · have hqk : ((k : Int) == 0) = false := by simpa using hk0
            have hf := Lib.hid (Hfst.out (by omega))
            rcases chr_cases s[k].toNat with ⟨c1, c2, c3⟩ | ⟨c1, c2, c3, c4⟩ | ⟨c1, c2, c3⟩ | ⟨c1, c2, c3, c4⟩ | ⟨c1, c2, c3, c4⟩
            · have hst := Lib.hid (Hst.out (okC_sm c1))
              clear Hbad Hst Hfk Hf0 c1 hk0
              have d1 : (97 : Int) ≤ (s[k].toNat : Int) := by omega
              have d2 : (s[k].toNat : Int) ≤ 122 := by omega
              go_wp2_with fail
              go_round
              case rel => exact ⟨k + 1, by omega, hst.out, fun _ => hf.out, by go_num⟩
              case measure => simp [intOf]; omega
            · have hst := Lib.hid (Hst.out (okC_dg c2))
              rw [c2] at HD
              clear Hbad Hst Hfk Hf0 c1 c2 hk0
              have d1 : (s[k].toNat : Int) < 97 := by omega
              have d3 : ((s[k].toNat : Int) != 45) = true := by rw [bne_iff_ne]; omega
              go_wp2_with fail
              refine (HD.out _).mono ?_; rintro e w1 ⟨rfl, rfl⟩
              go_wp2_with fail
              go_round
              case rel => exact ⟨k + 1, by omega, hst.out, fun _ => hf.out, by go_num⟩
              case measure => simp [intOf]; omega
            · have hst := Lib.hid (Hst.out (okC_da c3))
              clear Hbad Hst Hfk Hf0 c1 c2 hk0
              have d1 : (s[k].toNat : Int) < 97 := by omega
              have d3 : ((s[k].toNat : Int) != 45) = false := by simp [c3]
              clear c3
              go_wp2_with fail
              go_round
              case rel => exact ⟨k + 1, by omega, hst.out, fun _ => hf.out, by go_num⟩
              case measure => simp [intOf]; omega
            · have hfin := Lib.hid (Hbad.out (okC_no c1 c2 c3))
              rw [c2] at HD
              have d1 : (s[k].toNat : Int) < 97 := by omega
              have d3 : ((s[k].toNat : Int) != 45) = true := by rw [bne_iff_ne]; omega
              clear Hbad Hst Hfk Hf0 c1 c2 c3 hk0
              go_wp2_with fail
              refine (HD.out _).mono ?_; rintro e w1 ⟨rfl, rfl⟩
              go_wp2_with fail
              go_ret
              rw [hfin.out]; exact ⟨rfl, rfl⟩
            · have hfin := Lib.hid (Hbad.out (okC_no c1 c2 c3))
              rw [c2] at HD
              have d1 : (97 : Int) ≤ (s[k].toNat : Int) := by omega
              have d2 : decide ((s[k].toNat : Int) ≤ 122) = false := by rw [decide_eq_false_iff_not]; omega
              have d3 : ((s[k].toNat : Int) != 45) = true := by rw [bne_iff_ne]; omega
              clear Hbad Hst Hfk Hf0 c1 c2 c3 hk0
              go_wp2_with fail
              refine (HD.out _).mono ?_; rintro e w1 ⟨rfl, rfl⟩
              go_wp2_with fail
              go_ret
              rw [hfin.out]; exact ⟨rfl, rfl⟩
        · have hfin := Lib.hid (show isNm s.data.toList = true from isNm_yes _ hp (by rw [Hsz.out]; omega) (Hfst.out (by omega)) (by
            have := Hall.out
            rwa [List.take_of_length_le (by rw [Hsz.out]; omega)] at this))
          have hlt' : (s.size : Int) ≤ (k : Int) := by omega
          go_wp2_with fail
          go_ret
          rw [hfin.out]; exact ⟨rfl, rfl⟩
end Go.Proofs.Ytemcdmjnokpldaa
/- Names, part 3: the reference's IsName. -/
namespace Go.Proofs.Ytemcdmjnokpldaa
open Go.RowKit Go.Joins

theorem toList_ne {s : ByteArray} (h : s.size ≠ 0) : s.toList.isEmpty = false := by
  cases hs : s.toList.isEmpty with
  | false => rfl
  | true =>
    have h1 : s.toList = [] := by simpa using hs
    have h2 := congrArg List.length h1
    rw [ByteArray.toList_eq] at h2
    simp at h2
    exact absurd h2 (by simpa using h)

set_option maxRecDepth 100000 in
set_option maxHeartbeats 1600000 in
theorem IsNameS_any (s : ByteArray) (w : World) (hs : s.size ≤ 1048576) :
    Calls Try.prog 156 #[.string s] w fun e w' => e = .returned (.bool (isNm s.data.toList)) ∧ w = w' := by
  have hsz : s.data.toList.length = s.size := by simp
  have Hsz := Lib.hid hsz; clear hsz
  by_cases h0 : s.size = 0
  · obtain rfl : s = ⟨#[]⟩ := by
      obtain ⟨⟨l⟩⟩ := s
      have : l = [] := List.eq_nil_of_length_eq_zero h0
      rw [this]
    clear h0
    go_enter Try.func156, Try.ntmps156
    go_wp2_with fail
    go_ret
    exact ⟨rfl, rfl⟩
  · have he := toList_ne h0
    have hp : 0 < s.data.toList.length := by rw [Hsz.out]; omega
    have hp0 : 0 < s.size := by omega
    have hp1 : (0 : Int) < (s.size : Int) := by omega
    by_cases h12 : 12 < s.size
    · have hfin := Lib.hid (isNm_long s.data.toList (by rw [Hsz.out]; exact h12))
      have hq2 : (12 : Int) < (s.size : Int) := by omega
      clear h0
      go_enter Try.func156, Try.ntmps156
      go_wp2_with fail
      go_ret
      rw [hfin.out]; exact ⟨rfl, rfl⟩
    · have hq2 : (s.size : Int) ≤ 12 := by omega
      have HS := Lib.hid (fun wx => l01Small_any s[0].toNat wx)
      have hx8 := s[0].toNat_lt
      cases hsm : smC s[0].toNat with
      | false =>
        have hfin := Lib.hid (isNm_first s.data.toList hp hsm)
        rw [hsm] at HS
        clear hsm h0
        go_enter Try.func156, Try.ntmps156
        go_wp2_with fail
        refine (HS.out _).mono ?_; rintro e w1 ⟨rfl, rfl⟩
        go_wp2_with fail
        go_ret
        rw [hfin.out]; exact ⟨rfl, rfl⟩
      | true =>
        have Hyes := Lib.hid (fun h => isNm_yes s.data.toList hp (by rw [Hsz.out]; omega) hsm h)
        rw [hsm] at HS
        clear hsm h0
        go_enter Try.func156, Try.ntmps156
        go_wp2_with fail
        refine (HS.out _).mono ?_; rintro e w1 ⟨rfl, rfl⟩
        go_wp2_with fail
        go_loop [3] (fun i => ∃ k : Nat, k ≤ s.size ∧ ((s.data.toList.take k).all fun c => okC c.toNat) = true ∧ i = .int .i64 k) (fun i => s.size - (intOf i).toNat)
        case atStart => exact ⟨0, Nat.zero_le _, rfl, rfl⟩
        case round =>
          obtain ⟨k, hk, hall, rfl⟩ := hrel
          have Hall := Lib.hid hall; clear hall
          by_cases hlt : k < s.size
          · have hkl : k < s.data.toList.length := by rw [Hsz.out]; exact hlt
            have Hbad := Lib.hid (show okC s[k].toNat = false → isNm s.data.toList = false from fun h => isNm_bad s.data.toList k hkl h)
            have Hst := Lib.hid (show okC s[k].toNat = true → ((s.data.toList.take (k + 1)).all fun c => okC c.toNat) = true from fun h => all_step s.data.toList k hkl Hall.out h)
            have hx8 := s[k].toNat_lt
            have hx9 : (s[k].toNat : Int) < 256 := by omega
            have HC := Lib.hid (fun wx => l01Small_any s[k].toNat wx)
            have HD := Lib.hid (fun wx => l01Digit_any s[k].toNat wx)
            clear hx8
            have hlt' : (k : Int) < (s.size : Int) := by omega
            cases c1 : smC s[k].toNat with
            | true =>
              have hst := Lib.hid (Hst.out (okC_sm c1))
              rw [c1] at HC
              clear Hbad Hst c1
              go_wp2_with fail
              refine (HC.out _).mono ?_; rintro e w1 ⟨rfl, rfl⟩
              go_wp2_with fail
              go_round
              case rel => exact ⟨k + 1, by omega, hst.out, by go_num⟩
              case measure => simp [intOf]; omega
            | false =>
              rw [c1] at HC
              cases c2 : dgC s[k].toNat with
              | true =>
                have hst := Lib.hid (Hst.out (okC_dg c2))
                rw [c2] at HD
                clear Hbad Hst c1 c2
                go_wp2_with fail
                refine (HC.out _).mono ?_; rintro e w1 ⟨rfl, rfl⟩
                go_wp2_with fail
                refine (HD.out _).mono ?_; rintro e w1 ⟨rfl, rfl⟩
                go_wp2_with fail
                go_round
                case rel => exact ⟨k + 1, by omega, hst.out, by go_num⟩
                case measure => simp [intOf]; omega
              | false =>
                rw [c2] at HD
                by_cases c3 : s[k].toNat = 45
                · have hst := Lib.hid (Hst.out (okC_da c3))
                  have d3 : ((s[k].toNat : Int) != 45) = false := by simp [c3]
                  clear Hbad Hst c1 c2 c3
                  go_wp2_with fail
                  refine (HC.out _).mono ?_; rintro e w1 ⟨rfl, rfl⟩
                  go_wp2_with fail
                  refine (HD.out _).mono ?_; rintro e w1 ⟨rfl, rfl⟩
                  go_wp2_with fail
                  go_round
                  case rel => exact ⟨k + 1, by omega, hst.out, by go_num⟩
                  case measure => simp [intOf]; omega
                · have hfin := Lib.hid (Hbad.out (okC_no c1 c2 c3))
                  have d3 : ((s[k].toNat : Int) != 45) = true := by rw [bne_iff_ne]; omega
                  clear Hbad Hst c1 c2 c3
                  go_wp2_with fail
                  refine (HC.out _).mono ?_; rintro e w1 ⟨rfl, rfl⟩
                  go_wp2_with fail
                  refine (HD.out _).mono ?_; rintro e w1 ⟨rfl, rfl⟩
                  go_wp2_with fail
                  go_ret
                  rw [hfin.out]; exact ⟨rfl, rfl⟩
          · have hfin := Lib.hid (Hyes.out (by
              have := Hall.out
              rwa [List.take_of_length_le (by rw [Hsz.out]; omega)] at this))
            have hlt' : (s.size : Int) ≤ (k : Int) := by omega
            go_wp2_with fail
            go_ret
            rw [hfin.out]; exact ⟨rfl, rfl⟩
end Go.Proofs.Ytemcdmjnokpldaa
/- Entries, part 6: a valid entry, both sides. -/
namespace Go.Proofs.Ytemcdmjnokpldaa
open Go.RowKit Go.Joins

/-- all of the first n -/
def chk (n : Nat) (f : Nat → Bool) : Bool := (List.range n).all f
theorem chk_bad {n : Nat} {f : Nat → Bool} (k : Nat) (hk : k < n) (h : f k = false) : chk n f = false := by
  unfold chk
  rw [List.all_eq_false]
  exact ⟨k, List.mem_range.2 hk, by simp [h]⟩
theorem chk_step {f : Nat → Bool} {k : Nat} (h0 : chk k f = true) (h : f k = true) : chk (k + 1) f = true := by
  unfold chk at *
  rw [List.range_succ, List.all_append, h0]
  simp [h]
def lessS (a b : ByteArray) : Bool := Op.bytesLess a.toList b.toList
theorem bl_tot : ∀ a b : List UInt8, Op.bytesLess a b = !(Op.bytesLess b a || b == a)
  | [], [] => rfl
  | [], _ :: _ => by simp [Op.bytesLess]
  | _ :: _, [] => by simp [Op.bytesLess]
  | a :: x, b :: y => by
    have ih := bl_tot x y
    rcases Nat.lt_trichotomy a.toNat b.toNat with h | h | h
    · have h1 : a < b := UInt8.lt_iff_toNat_lt.2 h
      have h2 : ¬ b < a := fun e => by have := UInt8.lt_iff_toNat_lt.1 e; omega
      have h3 : b ≠ a := fun e => by rw [e] at h; omega
      simp [Op.bytesLess, h1, h2, h3]
    · have h1 : a = b := UInt8.toNat_inj.1 h
      subst h1
      have h2 : ¬ a < a := fun e => by have := UInt8.lt_iff_toNat_lt.1 e; omega
      simp only [Op.bytesLess, h2, ih]
      simp
    · have h1 : ¬ a < b := fun e => by have := UInt8.lt_iff_toNat_lt.1 e; omega
      have h2 : b < a := UInt8.lt_iff_toNat_lt.2 h
      have h3 : a ≠ b := fun e => by rw [e] at h; omega
      simp [Op.bytesLess, h1, h2, h3]
/-- what the two sides ask of neighbours -/
theorem less_yes {a b : ByteArray} (h : lessS a b = true) : (Op.bytesLess b.toList a.toList || b.toList == a.toList) = false ∧ Op.bytesLess b.toList a.toList = false ∧ (b.toList == a.toList) = false ∧ Op.bytesLess a.toList b.toList = true := by
  have h1 := bl_tot a.toList b.toList
  unfold lessS at h
  rw [h] at h1
  have h2 : (Op.bytesLess b.toList a.toList || b.toList == a.toList) = false := by simpa using h1.symm
  have h3 := h2
  rw [Bool.or_eq_false_iff] at h3
  exact ⟨h2, h3.1, h3.2, h⟩
theorem less_no {a b : ByteArray} (h : lessS a b = false) : (Op.bytesLess b.toList a.toList || b.toList == a.toList) = true ∧ Op.bytesLess a.toList b.toList = false := by
  have h1 := bl_tot a.toList b.toList
  unfold lessS at h
  rw [h] at h1
  refine ⟨?_, h⟩
  cases hh : (Op.bytesLess b.toList a.toList || b.toList == a.toList) with
  | true => rfl
  | false => rw [hh] at h1; simp at h1

def wordOk (l : List ByteArray) (i : Nat) : Bool := isNm (l.getD i ⟨#[]⟩).data.toList && (decide (i = 0) || lessS (l.getD (i - 1) ⟨#[]⟩) (l.getD i ⟨#[]⟩))
def entOk (x : Ent) : Bool := inB x.num 1 1000000 && isNm x.name.data.toList && isNm x.maker.data.toList && inB x.year 1000 3000 && decide (x.words.length ≤ 8) && chk x.words.length (wordOk x.words)
theorem getD_at (l : List ByteArray) (k : Nat) (hk : k < l.length) : l.getD k ⟨#[]⟩ = l[k] := by simp [List.getD, hk]
theorem wordOk_nm (l : List ByteArray) (k : Nat) (hk : k < l.length) (h : isNm l[k].data.toList = false) : wordOk l k = false := by unfold wordOk; rw [getD_at l k hk, h]; rfl
theorem wordOk_0 (l : List ByteArray) (hk : 0 < l.length) (h : isNm l[0].data.toList = true) : wordOk l 0 = true := by unfold wordOk; rw [getD_at l 0 hk, h]; rfl
theorem wordOk_s (l : List ByteArray) (k : Nat) (hk : k + 1 < l.length) (h : isNm l[k + 1].data.toList = true) : wordOk l (k + 1) = lessS l[k] l[k + 1] := by
  unfold wordOk
  rw [getD_at l (k + 1) hk, h, show k + 1 - 1 = k by omega, getD_at l k (by omega)]
  simp
theorem entOk_1 {x : Ent} (h : inB x.num 1 1000000 = false) : entOk x = false := by unfold entOk; rw [h]; rfl
theorem entOk_2 {x : Ent} (h : isNm x.name.data.toList = false) : entOk x = false := by unfold entOk; rw [h]; simp
theorem entOk_3 {x : Ent} (h : isNm x.maker.data.toList = false) : entOk x = false := by unfold entOk; rw [h]; simp
theorem entOk_4 {x : Ent} (h : inB x.year 1000 3000 = false) : entOk x = false := by unfold entOk; rw [h]; simp
theorem entOk_5 {x : Ent} (h : 8 < x.words.length) : entOk x = false := by unfold entOk; rw [decide_eq_false (by omega)]; simp
theorem entOk_6 {x : Ent} (h1 : inB x.num 1 1000000 = true) (h2 : isNm x.name.data.toList = true) (h3 : isNm x.maker.data.toList = true) (h4 : inB x.year 1000 3000 = true) (h5 : x.words.length ≤ 8) : entOk x = chk x.words.length (wordOk x.words) := by unfold entOk; rw [h1, h2, h3, h4, decide_eq_true h5]; simp

end Go.Proofs.Ytemcdmjnokpldaa
/- Entries, part 7: a valid entry, the reference's side. -/
namespace Go.Proofs.Ytemcdmjnokpldaa
open Go.RowKit Go.Joins

theorem flipC {P : Program} {f : FuncId} {args : Array Value} {w : World} {v : Value} (h : Calls P f args w fun e w' => e = .returned v ∧ w = w') : Calls P f args w fun e w' => e = .returned v ∧ w' = w :=
  h.mono fun _ _ ⟨a, b⟩ => ⟨a, b.symm⟩

end Go.Proofs.Ytemcdmjnokpldaa
/- A region that draws its order, step by step: an operation that is taken first, its slot given by number. No program is named here. -/
namespace Go.Proofs.Ytemcdmjnokpldaa
open Go.RowKit

section
variable {P : Program} {ops : Array Oper} {Q : Exit → Act → World → Prop} {md : Region.Mode} {S : World → Prop}
theorem take_d {i : Nat} {oi : Oper} {d : Option Nat} {v : Value} {fuel : Nat} {listed : Array Bool} {a : Act} {w : World} (hi : ops[i]? = some oi) (hd : oi.dst = d)
    (hs : Region.noSelect ops = true) (hf : Region.free md ops listed i = true) (hr : (Region.ready md ops listed).contains i = true)
    (hQ : ∀ c a w, Q (.panic c) (a.put d v) w → Q (.panic c) a w) (hy : YieldsIf P ops S oi v a) (hS : S w)
    (h : wpAnyH P md ops Q S fuel (listed.setIfInBounds i true) (a.put d v) w) : wpAnyH P md ops Q S (fuel + 1) listed a w := by
  subst hd
  exact wpAnyH_take hi hs hf hr hQ hy hS h
theorem call_d {i : Nat} {o : Oper} {d : Option Nat} {fuel : Nat} {listed : Array Bool} {a : Act} {w : World} (ho : ops[i]? = some o) (hd : o.dst = d) (hr : Region.ready md ops listed = [i])
    (h : ∀ K' : Act → World → Prop, Shut (∀ a w, S w → (S w → wpAnyH P md ops Q S fuel (listed.setIfInBounds i true) a w) → K' a w) → if Region.wanted o (yielded ops a.tmps) = true then Oper.wp P o a w K' Q else K' (a.put d undef) w) :
    wpAnyH P md ops Q S (fuel + 1) listed a w := by
  subst hd
  exact wpAnyH_ready hr (by simp) (AllReadyH.cons ho h AllReadyH.nil)
end
end Go.Proofs.Ytemcdmjnokpldaa
/- Entries, part 8 (regions' steps by heldsteps.py): ValidEntries on both sides. -/
namespace Go.Proofs.Ytemcdmjnokpldaa
open Go.RowKit Go.Joins

def noEnt : Ent := ⟨0, ⟨#[]⟩, ⟨#[]⟩, 0, []⟩
def placeOk (xs : List Ent) (i : Nat) : Bool := entOk (xs.getD i noEnt) && (decide (i = 0) || decide ((xs.getD (i - 1) noEnt).num < (xs.getD i noEnt).num))
def entsOk (xs : List Ent) : Bool := chk xs.length (placeOk xs) && decide (xs.length ≤ 50)
theorem getE_at (l : List Ent) (k : Nat) (hk : k < l.length) : l.getD k noEnt = l[k] := by simp [List.getD, hk]
theorem place_no (l : List Ent) (k : Nat) (hk : k < l.length) (h : entOk l[k] = false) : placeOk l k = false := by unfold placeOk; rw [getE_at l k hk, h]; rfl
theorem place_0 (l : List Ent) (hk : 0 < l.length) (h : entOk l[0] = true) : placeOk l 0 = true := by unfold placeOk; rw [getE_at l 0 hk, h]; rfl
theorem place_s (l : List Ent) (k : Nat) (hk : k + 1 < l.length) (h : entOk l[k + 1] = true) : placeOk l (k + 1) = decide (l[k].num < l[k + 1].num) := by
  unfold placeOk
  rw [getE_at l (k + 1) hk, h, show k + 1 - 1 = k by omega, getE_at l k (by omega)]
  simp
theorem ents_no {l : List Ent} (k : Nat) (hk : k < l.length) (h : placeOk l k = false) : entsOk l = false := by unfold entsOk; rw [chk_bad k hk h]; rfl
theorem five_at {w : World} {g : Nat} {a b c d e : Value} {t : TypeId} (h : w.heap[g]? = some (.cells #[a, b, c, d, e] t (0, 0))) :
    w.cell? ⟨g, 0, none⟩ = some a ∧ w.cell? ⟨g, 1, none⟩ = some b ∧ w.cell? ⟨g, 2, none⟩ = some c ∧ w.cell? ⟨g, 3, none⟩ = some d ∧ w.cell? ⟨g, 4, none⟩ = some e := by
  obtain ⟨h0, h1, h2, h3, h4, _⟩ := blk5 h
  exact ⟨h0, h1, h2, h3, h4⟩
theorem six_at {w : World} {g : Nat} {a b c d e v : Value} {q : Addr} {t : TypeId} (h : w.heap[g]? = some (.cells #[a, b, c, d, e] t (0, 0))) (hq : w.cell? q = some v) :
    w.cell? ⟨g, 0, none⟩ = some a ∧ w.cell? ⟨g, 1, none⟩ = some b ∧ w.cell? ⟨g, 2, none⟩ = some c ∧ w.cell? ⟨g, 3, none⟩ = some d ∧ w.cell? ⟨g, 4, none⟩ = some e ∧ w.cell? q = some v := by
  obtain ⟨h0, h1, h2, h3, h4, _⟩ := blk5 h
  exact ⟨h0, h1, h2, h3, h4, hq⟩

end Go.Proofs.Ytemcdmjnokpldaa
/- Entries, part 5: the reading of an argument; the law FnExactSameEntries. -/
namespace Go.Proofs.Ytemcdmjnokpldaa
open Go.ChangeShapes Go.WideShapes Go.ChangeAt Go.RowKit

section
variable {H : Type} {enc : TypeId × Value → H} {P : Program} {W : World}
theorem rd_strs_cells {T E : Nat} {fuel : Nat} {cs : List Value} {x : DataW H × List MemPlace} (hT : P.underlying T = some (.slice E)) (hE : P.underlying E = some .string) (hC : P.cellsOf E = 1)
    (hf : DataW.trod enc P W 0 (fun _ => true) true fuel T cs = some x) :
    ∃ (v : Value) (zs : List ByteArray), cs = [v] ∧ Rd W W.heap.size v zs.length 1 (Proofs.Ytemcdmjnokpldaa.strs zs) ∧ zs.length ≤ maxLen ∧ ∀ z ∈ zs, z.size ≤ maxLen := by
  rcases open_strings hT hE hC hf with ⟨rfl, hx⟩ | ⟨a, len, cap, zs, rfl, _, hl, hm, hz, hx, hcell, hwz⟩
  · exact ⟨_, [], rfl, ⟨rfl, none, 0, rfl, fun h => by simp at h⟩, by simp [maxLen], by simp⟩
  · have hz' : zs.length = cap := by simpa using hz
    have hlen : (zs.take len).length = len := by rw [List.length_take]; omega
    refine ⟨_, zs.take len, rfl, ?_, by rw [hlen]; omega, fun z hzz => hwz z (List.mem_of_mem_take hzz)⟩
    rw [hlen]
    refine ⟨by simp [Proofs.Ytemcdmjnokpldaa.strs]; omega, some a, cap, rfl, fun hn => ?_⟩
    have h0 := hcell 0 (by omega)
    obtain ⟨b, off, spot⟩ := a
    have hspot : spot = none := by simpa [Addr.add] using World.cell?_spot h0
    subst hspot
    have hc : ∀ j, j < zs.length → W.cell? ⟨b, off + j, none⟩ = some (.string (zs.getD j ByteArray.empty)) := fun j hj => by rw [← Go.WideShapes.add_plain]; exact hcell j hj
    refine ⟨b, off, rfl, World.block_lt_of_cell? W _ (hc 0 (by omega)), fun i u hu => ?_⟩
    have hi : i < len := by
      have := (List.getElem?_eq_some_iff.1 hu).1
      simp [Proofs.Ytemcdmjnokpldaa.strs] at this; omega
    rw [hc i (by omega), ← hu]
    simp [Proofs.Ytemcdmjnokpldaa.strs, hi, List.getD, (show i < zs.length by omega)]
end

open Go.Joins
end Go.Proofs.Ytemcdmjnokpldaa
/- Entries, part 9: ValidEntries on the reference's side; the law. -/
namespace Go.Proofs.Ytemcdmjnokpldaa
open Go.RowKit Go.Joins

end Go.Proofs.Ytemcdmjnokpldaa
/- Similar entries, part 1: finding an entry, a word. -/
namespace Go.Proofs.Ytemcdmjnokpldaa
open Go.RowKit Go.Joins

def findN : List Ent → Int → Nat → Int
  | [], _, _ => -1
  | x :: l, m, k => if x.num = m then (k : Int) else findN l m (k + 1)
theorem findN_at (xs : List Ent) (m : Int) (k : Nat) (hk : k < xs.length) : findN (xs.drop k) m k = if xs[k].num = m then (k : Int) else findN (xs.drop (k + 1)) m (k + 1) := by
  rw [List.drop_eq_getElem_cons hk]; rfl
theorem findN_end (xs : List Ent) (m : Int) (k : Nat) (hk : xs.length ≤ k) : findN (xs.drop k) m k = -1 := by rw [List.drop_of_length_le hk]; rfl
theorem findN_bd (m : Int) : ∀ (xs : List Ent) (k : Nat), findN xs m k = -1 ∨ ∃ i, i < xs.length ∧ findN xs m k = ((k + i : Nat) : Int) := by
  intro xs
  induction xs with
  | nil => intro k; exact .inl rfl
  | cons x l ih =>
    intro k
    unfold findN
    split
    · exact .inr ⟨0, by simp, rfl⟩
    · rcases ih (k + 1) with h | ⟨i, h1, h2⟩
      · exact .inl h
      · exact .inr ⟨i + 1, by simp; omega, by rw [h2]; congr 1; omega⟩
def hasW : List ByteArray → ByteArray → Bool
  | [], _ => false
  | x :: l, s => if x = s then true else hasW l s
theorem hasW_at (ws : List ByteArray) (s : ByteArray) (k : Nat) (hk : k < ws.length) : hasW (ws.drop k) s = if ws[k] = s then true else hasW (ws.drop (k + 1)) s := by
  rw [List.drop_eq_getElem_cons hk]; rfl
theorem hasW_end (ws : List ByteArray) (s : ByteArray) (k : Nat) (hk : ws.length ≤ k) : hasW (ws.drop k) s = false := by rw [List.drop_of_length_le hk]; rfl

/-- the code of an asked number, and where it is -/
def askC (xs : List Ent) (m : Int) : Int := if entsOk xs = false then 1 else if findN xs m 0 < 0 then 3 else 0
def askI (xs : List Ent) (m : Int) : Int := if entsOk xs = false then 0 else if findN xs m 0 < 0 then 0 else findN xs m 0
end Go.Proofs.Ytemcdmjnokpldaa
/- Registers, part 1: the exact laws' helpers: szInt64S, szRegister, toInt64S, eqInt64S. -/
namespace Go.Proofs.Ytemcdmjnokpldaa
open Go.RowKit Go.Joins

def ints (l : List Int) : List Value := l.map (Value.int .i64)
theorem infoI : (Try.prog.info? 2).map (fun i => (i.zero, i.size, i.bytes)) = some (some (.int .i64 0), 1, 8) := by kernel_rfl
theorem ints_rd {w : World} {B n c : Nat} {A : Option Addr} {zs : List Int} (h : Rd w B (.slice A n c) zs.length 1 (ints zs)) (k : Nat) (hk : k < zs.length) :
    ∃ b off, A = some ⟨b, off, none⟩ ∧ w.cell? ⟨b, off + k, none⟩ = some (.int .i64 zs[k]) := by
  obtain ⟨_, A', c', hv, hc⟩ := h
  injection hv with e1 e2 e3
  subst e1
  obtain ⟨b, off, hA, _, hcc⟩ := hc (by omega)
  exact ⟨b, off, hA, hcc k _ (by simp [ints, hk])⟩

/-- what is left of the room -/
def leftI (left : Int) (n : Nat) : Int := if left - n < 0 then -1 else left - n
theorem leftI_bd (left : Int) (n : Nat) (h1 : left ≤ 1048576) : leftI left n ≤ 1048576 ∧ (0 ≤ leftI left n → (n : Int) ≤ left) ∧ (leftI left n < 0 → leftI left n = -1) := by
  unfold leftI
  split <;> omega

end Go.Proofs.Ytemcdmjnokpldaa
/- Similar entries, part 2: the words two entries share; the reference's side. -/
namespace Go.Proofs.Ytemcdmjnokpldaa
open Go.RowKit Go.Joins

/-- how many words of the one list the other has -/
def comN : List ByteArray → List ByteArray → Nat
  | [], _ => 0
  | x :: l, b => if hasW b x = true then 1 + comN l b else comN l b
theorem comN_at (ws b : List ByteArray) (k : Nat) (hk : k < ws.length) : comN (ws.drop k) b = if hasW b ws[k] = true then 1 + comN (ws.drop (k + 1)) b else comN (ws.drop (k + 1)) b := by
  rw [List.drop_eq_getElem_cons hk]; rfl
theorem comN_end (ws b : List ByteArray) (k : Nat) (hk : ws.length ≤ k) : comN (ws.drop k) b = 0 := by rw [List.drop_of_length_le hk]; rfl
theorem comN_le : ∀ (ws b : List ByteArray), comN ws b ≤ ws.length := by
  intro ws b
  induction ws with
  | nil => exact Nat.le_refl _
  | cons x l ih => unfold comN; split <;> simp <;> omega

end Go.Proofs.Ytemcdmjnokpldaa
/- Similar entries, part 3: the list; the reference's SimilarEntries. -/
namespace Go.Proofs.Ytemcdmjnokpldaa
open Go.RowKit Go.Joins

def simF : List Ent → Nat → Nat → List ByteArray → Nat → List Int → List Int
  | [], _, _, _, _, out => out
  | x :: l, k, i, b, m, out => if k = i ∨ comN x.words b < m then simF l (k + 1) i b m out else if m < comN x.words b then simF l (k + 1) i b (comN x.words b) [x.num] else simF l (k + 1) i b m (out ++ [x.num])
theorem simF_at (xs : List Ent) (k i : Nat) (b : List ByteArray) (m : Nat) (out : List Int) (hk : k < xs.length) : simF (xs.drop k) k i b m out =
    if k = i ∨ comN xs[k].words b < m then simF (xs.drop (k + 1)) (k + 1) i b m out else if m < comN xs[k].words b then simF (xs.drop (k + 1)) (k + 1) i b (comN xs[k].words b) [xs[k].num] else simF (xs.drop (k + 1)) (k + 1) i b m (out ++ [xs[k].num]) := by
  rw [List.drop_eq_getElem_cons hk]; rfl
theorem simF_end (xs : List Ent) (k i : Nat) (b : List ByteArray) (m : Nat) (out : List Int) (hk : xs.length ≤ k) : simF (xs.drop k) k i b m out = out := by rw [List.drop_of_length_le hk]; rfl
/-- the numbers of the most similar -/
def simL (xs : List Ent) (m : Int) : List Int := if askC xs m = 0 then simF xs 0 (askI xs m).toNat (xs.getD (askI xs m).toNat noEnt).words 1 [] else []
theorem simF_len (i : Nat) (b : List ByteArray) : ∀ (xs : List Ent) (k m : Nat) (out : List Int), (simF xs k i b m out).length ≤ out.length + xs.length := by
  intro xs
  induction xs with
  | nil => intro k m out; exact Nat.le_refl _
  | cons x l ih =>
    intro k m out
    unfold simF
    split
    · have := ih (k + 1) m out; simp; omega
    · split
      · have := ih (k + 1) (comN x.words b) [x.num]; simp at *; omega
      · have := ih (k + 1) m (out ++ [x.num]); simp at *; omega
theorem simL_len (xs : List Ent) (m : Int) : (simL xs m).length ≤ xs.length := by
  unfold simL
  split
  · have := simF_len (askI xs m).toNat (xs.getD (askI xs m).toNat noEnt).words xs 0 1 []; simpa using this
  · simp
theorem sim_cases (xs : List Ent) (m : Int) : (askC xs m ≠ 0 ∧ simL xs m = []) ∨ ∃ (i : Nat) (hi : i < xs.length), askC xs m = 0 ∧ askI xs m = i ∧ entsOk xs = true ∧ findN xs m 0 = i ∧ simL xs m = simF xs 0 i xs[i].words 1 [] := by
  by_cases h : askC xs m = 0
  · right
    have h' := h
    unfold askC at h
    split at h
    · cases h
    · split at h
      · cases h
      · rename_i ho hf
        have ho : entsOk xs = true := by simpa using ho
        rcases findN_bd m xs 0 with e | ⟨i, hi, e⟩
        · omega
        · rw [Nat.zero_add] at e
          have hI : askI xs m = (i : Int) := by
            unfold askI
            rw [if_neg (by simp [ho]), if_neg (by omega), e]
          refine ⟨i, hi, h', hI, ho, e, ?_⟩
          unfold simL
          rw [if_pos h', hI, Int.toNat_natCast, getE_at xs i hi]
  · exact .inl ⟨h, by unfold simL; rw [if_neg h]⟩

/-- a new list of numbers and a code -/
def RetN (code : Int) (zs : List Int) (w : World) (e : Ending) (w' : World) : Prop :=
  ∃ v, e = .returned (.tuple #[v, .int .i64 code]) ∧ w'.ownsRow w.heap.size 2 1 v zs.length (ints zs) ∧ Below w.heap.size w w'
theorem RetN_no {code c2 : Int} {zs : List Int} {w w' : World} (h : zs = []) (hc : c2 = code) (hb : Below w.heap.size w w') : RetN code zs w (.returned (.tuple #[.slice none 0 0, .int .i64 c2])) w' := by
  subst h hc
  exact ⟨_, rfl, World.ownsRow_nil _ _ _ _, hb⟩
theorem RetN_yes {code c2 : Int} {zs l : List Int} {v : Value} {w w' : World} (h : zs = l) (hc : c2 = code) (ho : w'.ownsRow w.heap.size 2 1 v l.length (ints l)) (hb : Below w.heap.size w w') : RetN code zs w (.returned (.tuple #[v, .int .i64 c2])) w' := by
  subst h hc
  exact ⟨_, rfl, ho, hb⟩
theorem ones_one (a : Int) : ∀ u ∈ (#[Value.int .i64 a] : Array Value).toList, u.oneCell' = true := by
  intro u hu
  simp at hu
  subst hu; rfl
theorem ints_one (l : List Int) (a : Int) : ints l ++ (#[Value.int .i64 a] : Array Value).toList = ints (l ++ [a]) := by simp [ints]

end Go.Proofs.Ytemcdmjnokpldaa
/- Similar entries, part 4: the program's SimilarEntries. -/
namespace Go.Proofs.Ytemcdmjnokpldaa
open Go.RowKit Go.Joins

end Go.Proofs.Ytemcdmjnokpldaa
/- Similar entries, part 5: the marks' helpers. -/
namespace Go.Proofs.Ytemcdmjnokpldaa
open Go.RowKit Go.Joins

/-- the digits in front of what is there already -/
def mkD : Nat → Nat → List UInt8 → List UInt8
  | 0, _, out => out
  | f + 1, k, out => if k = 0 then out else mkD f (k / 10) (UInt8.ofNat (48 + k % 10) :: out)
theorem mkD_zero (f : Nat) (out : List UInt8) : mkD f 0 out = out := by cases f <;> simp [mkD]
theorem mkD_step (f m : Nat) (out : List UInt8) (h : 0 < m) (hf : m ≤ f) : ∃ f', mkD f m out = mkD f' (m / 10) (UInt8.ofNat (48 + m % 10) :: out) ∧ m / 10 ≤ f' := by
  cases f with
  | zero => omega
  | succ f => exact ⟨f, by simp [mkD, show m ≠ 0 by omega], by omega⟩
/-- the text of a mark -/
def markT (k : Int) : ByteArray := if k ≤ 0 then ⟨#[109, 48]⟩ else ⟨(109 :: mkD k.toNat k.toNat []).toArray⟩
theorem digB (m : Nat) : IntKind.u8.wrap (48 + (m : Int) % 10) = ((UInt8.ofNat (48 + m % 10)).toNat : Int) := by
  rw [IntKind.wrap_u8]
  simp only [UInt8.toNat_ofNat']
  omega

/-- the marks from k on -/
def marks (k : Int) (n : Nat) : List ByteArray := (List.range n).map fun (i : Nat) => markT (k + (i : Int))
theorem marks_at (k : Int) (n i : Nat) (h : i < n) : (strs (marks k n))[i]? = some (.string (markT (k + (i : Int)))) := by simp [strs, marks, h]
theorem marks_len (k : Int) (n : Nat) : (marks k n).length = n := by simp [marks]

def marksI (k : Int) (n : Nat) : List Int := (List.range n).map fun (i : Nat) => k + (i : Int)
theorem marksI_len (k : Int) (n : Nat) : (marksI k n).length = n := by simp [marksI]
theorem marksI_at (k : Int) (n i : Nat) (h : i < n) : (marksI k n)[i]'(by rw [marksI_len]; exact h) = k + (i : Int) := by simp [marksI]
theorem marksI_succ (k : Int) (n : Nat) : marksI k (n + 1) = marksI k n ++ [k + (n : Int)] := by
  unfold marksI
  rw [List.range_succ, List.map_append]; rfl

end Go.Proofs.Ytemcdmjnokpldaa
/- Loans, part 6: markLoanS. -/
namespace Go.Proofs.Ytemcdmjnokpldaa
open Go.RowKit Go.Joins

def marksL (k : Int) (n : Nat) : List Ln := (List.range n).map fun (i : Nat) => ⟨markT (k + 4 * (i : Int)), markT (k + 4 * (i : Int) + 1), k + 4 * (i : Int) + 1 + 1, k + 4 * (i : Int) + 1 + 1 + 1⟩
theorem marksL_len (k : Int) (n : Nat) : (marksL k n).length = n := by simp [marksL]
theorem marksL_succ (k : Int) (n : Nat) : (marksL k (n + 1)).flatMap cellsL = (marksL k n).flatMap cellsL ++ [.string (markT (k + 4 * (n : Int))), .string (markT (k + 4 * (n : Int) + 1)), .int .i64 (k + 4 * (n : Int) + 1 + 1), .int .i64 (k + 4 * (n : Int) + 1 + 1 + 1)] := by
  unfold marksL
  rw [List.range_succ, List.map_append, List.flatMap_append]; rfl

end Go.Proofs.Ytemcdmjnokpldaa
/- Loans, part 7: heldLoanS. -/
namespace Go.Proofs.Ytemcdmjnokpldaa
open Go.RowKit Go.Joins

theorem marksL_at (k : Int) (n i : Nat) (h : i < n) : (marksL k n)[i]'(by rw [marksL_len]; exact h) = ⟨markT (k + 4 * (i : Int)), markT (k + 4 * (i : Int) + 1), k + 4 * (i : Int) + 1 + 1, k + 4 * (i : Int) + 1 + 1 + 1⟩ := by simp [marksL]

theorem four_kept {W w1 : World} {a b c d : Addr} {x y z t : Value} (hb : Below W.heap.size W w1) (h : W.cell? a = some x ∧ W.cell? b = some y ∧ W.cell? c = some z ∧ W.cell? d = some t) :
    w1.cell? a = some x ∧ w1.cell? b = some y ∧ w1.cell? c = some z ∧ w1.cell? d = some t :=
  have k {p : Addr} {v : Value} (h : W.cell? p = some v) : w1.cell? p = some v := (hb.cell (World.block_lt_of_cell? W _ h)).trans h
  ⟨k h.1, k h.2.1, k h.2.2.1, k h.2.2.2⟩

end Go.Proofs.Ytemcdmjnokpldaa
/- Loans, part 8: one loan's validity, clashes, the order: both sides. -/
namespace Go.Proofs.Ytemcdmjnokpldaa
open Go.RowKit Go.Joins

def loanOk (x : Ln) : Bool := isNm x.what.data.toList && isNm x.who.data.toList && inB x.from_ 0 100000 && inB x.till 0 100000 && decide (x.from_ ≤ x.till)
theorem loan_cases (x : Ln) : (isNm x.what.data.toList = false ∧ loanOk x = false) ∨ (isNm x.what.data.toList = true ∧ isNm x.who.data.toList = false ∧ loanOk x = false) ∨
    (isNm x.what.data.toList = true ∧ isNm x.who.data.toList = true ∧ inB x.from_ 0 100000 = false ∧ loanOk x = false) ∨
    (isNm x.what.data.toList = true ∧ isNm x.who.data.toList = true ∧ inB x.from_ 0 100000 = true ∧ inB x.till 0 100000 = false ∧ loanOk x = false) ∨
    (isNm x.what.data.toList = true ∧ isNm x.who.data.toList = true ∧ inB x.from_ 0 100000 = true ∧ inB x.till 0 100000 = true ∧ loanOk x = decide (x.from_ ≤ x.till)) := by
  unfold loanOk
  cases h1 : isNm x.what.data.toList <;> cases h2 : isNm x.who.data.toList <;> cases h3 : inB x.from_ 0 100000 <;> cases h4 : inB x.till 0 100000 <;> simp

end Go.Proofs.Ytemcdmjnokpldaa
/- Loans, part 9: clashes and the order, both sides. -/
namespace Go.Proofs.Ytemcdmjnokpldaa
open Go.RowKit Go.Joins

def clash (x y : Ln) : Bool := decide (x.what = y.what) && decide (x.from_ ≤ y.till) && decide (y.from_ ≤ x.till)
def before (x y : Ln) : Bool := decide (x.from_ < y.from_) || (decide (x.from_ = y.from_) && lessS x.what y.what)
theorem clash_cases (x y : Ln) : ((x.what.toList == y.what.toList) = false ∧ clash x y = false) ∨ ((x.what.toList == y.what.toList) = true ∧ decide (x.from_ ≤ y.till) = false ∧ clash x y = false) ∨
    ((x.what.toList == y.what.toList) = true ∧ decide (x.from_ ≤ y.till) = true ∧ clash x y = decide (y.from_ ≤ x.till)) := by
  unfold clash
  by_cases h : x.what = y.what
  · rw [h]
    by_cases h1 : x.from_ ≤ y.till <;> simp [h1]
  · exact .inl ⟨beq_eq_false_iff_ne.2 fun e => h (ba_inj e), by simp [h]⟩
theorem before_cases (x y : Ln) : (decide (x.from_ < y.from_) = true ∧ before x y = true) ∨ (decide (x.from_ < y.from_) = false ∧ (x.from_ == y.from_) = false ∧ before x y = false) ∨
    (decide (x.from_ < y.from_) = false ∧ (x.from_ == y.from_) = true ∧ before x y = Op.bytesLess x.what.toList y.what.toList) := by
  unfold before
  change _ ∨ _ ∨ (_ ∧ _ ∧ _ = lessS x.what y.what)
  by_cases h : x.from_ < y.from_
  · simp [h]
  · by_cases h1 : x.from_ = y.from_
    · simp [h1]
    · simp [h, h1]

end Go.Proofs.Ytemcdmjnokpldaa
/- Loans, part 10: valid lists of loans, in plain words; the reference's side. -/
namespace Go.Proofs.Ytemcdmjnokpldaa
open Go.RowKit Go.Joins

def noLn : Ln := ⟨⟨#[]⟩, ⟨#[]⟩, 0, 0⟩
def atL (xs : List Ln) (k : Nat) : Ln := xs.getD k noLn
theorem atL_at (xs : List Ln) (k : Nat) (hk : k < xs.length) : atL xs k = xs[k] := by simp [atL, List.getD, hk]
def freeS (xs : List Ln) (i k : Nat) : Bool := !clash (atL xs k) (atL xs i)
def freeI (xs : List Ln) (i k : Nat) : Bool := !clash (atL xs i) (atL xs k)
def placeS (xs : List Ln) (i : Nat) : Bool := loanOk (atL xs i) && (decide (i = 0) || before (atL xs (i - 1)) (atL xs i)) && chk i (freeS xs i)
def placeI (xs : List Ln) (i : Nat) : Bool := loanOk (atL xs i) && (decide (i = 0) || !before (atL xs i) (atL xs (i - 1))) && chk i (freeI xs i)
def loansOk (xs : List Ln) : Bool := chk xs.length (placeS xs) && decide (xs.length ≤ 60)
def loansOkI (xs : List Ln) : Bool := chk xs.length (placeI xs) && decide (xs.length ≤ 60)
theorem RdL.atD {w : World} {B n c : Nat} {A : Option Addr} {xs : List Ln} (h : RdL w B (.slice A n c) xs) (k : Nat) (hk : k < xs.length) :
    ∃ b off, A = some ⟨b, off, none⟩ ∧ LnAt w B b (off + k * 4) (atL xs k) := by rw [atL_at xs k hk]; exact h.at k hk
theorem chk_succ (f : Nat → Bool) (n : Nat) : chk (n + 1) f = (chk n f && f n) := by
  unfold chk; rw [List.range_succ, List.all_append]; simp
theorem chk_get {f : Nat → Bool} {n k : Nat} (h : chk n f = true) (hk : k < n) : f k = true := by
  unfold chk at h
  exact List.all_eq_true.1 h k (List.mem_range.2 hk)
theorem clash_comm (x y : Ln) : clash x y = clash y x := by
  unfold clash
  rw [Bool.eq_iff_iff]
  simp only [Bool.and_eq_true, decide_eq_true_eq]
  constructor
  · rintro ⟨⟨h1, h2⟩, h3⟩; exact ⟨⟨h1.symm, h3⟩, h2⟩
  · rintro ⟨⟨h1, h2⟩, h3⟩; exact ⟨⟨h1.symm, h3⟩, h2⟩
theorem free_eq (xs : List Ln) (i : Nat) : freeI xs i = freeS xs i := by
  funext k; unfold freeI freeS; rw [clash_comm]
theorem loanOk_le {x : Ln} (h : loanOk x = true) : x.from_ ≤ x.till := by
  unfold loanOk at h
  simp only [Bool.and_eq_true, decide_eq_true_eq] at h
  exact h.2
theorem less_tri {a b : ByteArray} (h : a ≠ b) : lessS a b = !lessS b a := by
  have h1 := bl_tot a.toList b.toList
  have h2 : (b.toList == a.toList) = false := beq_eq_false_iff_ne.2 fun e => h (ba_inj e).symm
  rw [h2, Bool.or_false] at h1
  exact h1
theorem before_flip {x y : Ln} (hx : loanOk x = true) (hy : loanOk y = true) (hc : clash x y = false) : before x y = !before y x := by
  have h1 := loanOk_le hx
  have h2 := loanOk_le hy
  unfold before
  rcases Int.lt_trichotomy x.from_ y.from_ with h | h | h
  · have h3 : ¬ y.from_ < x.from_ := by omega
    have h4 : ¬ y.from_ = x.from_ := by omega
    simp [h, h3, h4]
  · have hw : x.what ≠ y.what := fun e => by
      unfold clash at hc
      rw [e] at hc
      simp at hc
      omega
    have := less_tri hw
    simp [h, this]
  · have h3 : ¬ x.from_ < y.from_ := by omega
    have h4 : ¬ x.from_ = y.from_ := by omega
    simp [h, h3, h4]
theorem place_eq (xs : List Ln) : ∀ n, chk n (placeI xs) = chk n (placeS xs)
  | 0 => rfl
  | n + 1 => by
    rw [chk_succ, chk_succ, place_eq xs n]
    cases hn : chk n (placeS xs) with
    | false => rfl
    | true =>
      simp only [Bool.true_and]
      unfold placeI placeS
      rw [free_eq]
      cases h1 : loanOk (atL xs n) with
      | false => rfl
      | true =>
        cases h2 : chk n (freeS xs n) with
        | false => simp
        | true =>
          rcases Nat.eq_zero_or_pos n with h0 | h0
          · subst h0; rfl
          · have h3 := chk_get hn (show n - 1 < n by omega)
            unfold placeS at h3
            simp only [Bool.and_eq_true] at h3
            have h4 : freeS xs n (n - 1) = true := chk_get h2 (by omega)
            unfold freeS at h4
            rw [before_flip h3.1.1 h1 (by simpa using h4)]
theorem loansOk_eq (xs : List Ln) : loansOkI xs = loansOk xs := by unfold loansOkI loansOk; rw [place_eq]
theorem loans_no {xs : List Ln} (k : Nat) (hk : k < xs.length) (h : placeS xs k = false) : loansOk xs = false := by unfold loansOk; rw [chk_bad k hk h]; rfl
theorem place_1 {xs : List Ln} {k : Nat} (hk : k < xs.length) (h : loanOk xs[k] = false) : placeS xs k = false := by unfold placeS; rw [atL_at xs k hk, h]; rfl
theorem place_2 {xs : List Ln} {k m : Nat} (hk : k < xs.length) (hm : m + 1 = k) (h : before (atL xs m) xs[k] = false) : placeS xs k = false := by
  unfold placeS; rw [atL_at xs k hk, show k - 1 = m by omega, h, decide_eq_false (by omega)]; simp
theorem place_3 {xs : List Ln} {k j : Nat} (hk : k < xs.length) (hj : j < k) (h : clash (atL xs j) xs[k] = true) : placeS xs k = false := by
  have : freeS xs k j = false := by unfold freeS; rw [atL_at xs k hk, h]; rfl
  unfold placeS; rw [chk_bad j hj this]; simp
theorem place_4 {xs : List Ln} {k : Nat} (hk : k < xs.length) (h1 : loanOk xs[k] = true) (h2 : k = 0 ∨ ∃ m, m + 1 = k ∧ before (atL xs m) xs[k] = true) (h : chk k (freeS xs k) = true) : placeS xs k = true := by
  unfold placeS
  rw [atL_at xs k hk, h1, h]
  rcases h2 with rfl | ⟨m, hm, h2⟩
  · rfl
  · rw [show k - 1 = m by omega, h2]; simp
theorem free_step {xs : List Ln} {k j : Nat} (hk : k < xs.length) (h : clash (atL xs j) xs[k] = false) : freeS xs k j = true := by
  unfold freeS; rw [atL_at xs k hk, h]; rfl

/-- what a round meets at place k -/
theorem round_cases (xs : List Ln) (k : Nat) (hk : k < xs.length) : (loanOk xs[k] = false ∧ loansOk xs = false) ∨ (loanOk xs[k] = true ∧ k = 0) ∨
    ∃ m, m + 1 = k ∧ loanOk xs[k] = true ∧ ((before (atL xs m) xs[k] = false ∧ loansOk xs = false) ∨ before (atL xs m) xs[k] = true) := by
  cases h : loanOk xs[k] with
  | false => exact .inl ⟨rfl, loans_no k hk (place_1 hk h)⟩
  | true =>
    rcases Nat.eq_zero_or_pos k with h0 | h0
    · exact .inr (.inl ⟨rfl, h0⟩)
    · refine .inr (.inr ⟨k - 1, by omega, rfl, ?_⟩)
      cases hb : before (atL xs (k - 1)) xs[k] with
      | false => exact .inl ⟨rfl, loans_no k hk (place_2 hk (by omega) hb)⟩
      | true => exact .inr rfl

end Go.Proofs.Ytemcdmjnokpldaa
/- Loans, part 11 (printed by genlo11.py): valid lists of loans, the program's side. -/
namespace Go.Proofs.Ytemcdmjnokpldaa
open Go.RowKit Go.Joins

theorem four_at {w : World} {g : Nat} {a b c d : Value} {t : TypeId} (h : w.heap[g]? = some (.cells #[a, b, c, d] t (0, 0))) :
    w.cell? ⟨g, 0, none⟩ = some a ∧ w.cell? ⟨g, 1, none⟩ = some b ∧ w.cell? ⟨g, 2, none⟩ = some c ∧ w.cell? ⟨g, 3, none⟩ = some d := by
  refine ⟨?_, ?_, ?_, ?_⟩
  · rw [cell_of_row w g 0 _ _ _ h]; rfl
  · rw [cell_of_row w g 1 _ _ _ h]; rfl
  · rw [cell_of_row w g 2 _ _ _ h]; rfl
  · rw [cell_of_row w g 3 _ _ _ h]; rfl
theorem eight_at {w : World} {g B b1 o1 : Nat} {a b c d : Value} {t : TypeId} {p : Ln} (h : w.heap[g]? = some (.cells #[a, b, c, d] t (0, 0))) (hp : LnAt w B b1 o1 p) :
    w.cell? ⟨g, 0, none⟩ = some a ∧ w.cell? ⟨g, 1, none⟩ = some b ∧ w.cell? ⟨g, 2, none⟩ = some c ∧ w.cell? ⟨g, 3, none⟩ = some d ∧
    w.cell? ⟨b1, o1, none⟩ = some (.string p.what) ∧ w.cell? ⟨b1, o1 + 1, none⟩ = some (.string p.who) ∧ w.cell? ⟨b1, o1 + 2, none⟩ = some (.int .i64 p.from_) ∧ w.cell? ⟨b1, o1 + 3, none⟩ = some (.int .i64 p.till) :=
  have k := four_at h
  ⟨k.1, k.2.1, k.2.2.1, k.2.2.2, hp.c0, hp.c1, hp.c2, hp.c3⟩
theorem loansI_no {xs : List Ln} (k : Nat) (hk : k < xs.length) (h : placeI xs k = false) : loansOkI xs = false := by unfold loansOkI; rw [chk_bad k hk h]; rfl
theorem round_casesI (xs : List Ln) (k : Nat) (hk : k < xs.length) : (loanOk xs[k] = false ∧ loansOkI xs = false) ∨ (loanOk xs[k] = true ∧ k = 0) ∨
    ∃ m, m + 1 = k ∧ loanOk xs[k] = true ∧ ((before xs[k] (atL xs m) = true ∧ loansOkI xs = false) ∨ before xs[k] (atL xs m) = false) := by
  cases h : loanOk xs[k] with
  | false => exact .inl ⟨rfl, loansI_no k hk (by unfold placeI; rw [atL_at xs k hk, h]; rfl)⟩
  | true =>
    rcases Nat.eq_zero_or_pos k with h0 | h0
    · exact .inr (.inl ⟨rfl, h0⟩)
    · refine .inr (.inr ⟨k - 1, by omega, rfl, ?_⟩)
      cases hb : before xs[k] (atL xs (k - 1)) with
      | true => exact .inl ⟨rfl, loansI_no k hk (by unfold placeI; rw [atL_at xs k hk, h, hb, decide_eq_false (by omega)]; simp)⟩
      | false => exact .inr rfl
theorem placeI_3 {xs : List Ln} {k : Nat} (hk : k < xs.length) (j : Nat) (hj : j < k) (h : clash xs[k] (atL xs j) = true) : loansOkI xs = false := by
  have : freeI xs k j = false := by unfold freeI; rw [atL_at xs k hk, h]; rfl
  refine loansI_no k hk ?_
  unfold placeI; rw [chk_bad j hj this]; simp
theorem placeI_4 {xs : List Ln} {k : Nat} (hk : k < xs.length) (h0 : chk k (placeI xs) = true) (h1 : loanOk xs[k] = true) (h2 : k = 0 ∨ ∃ m, m + 1 = k ∧ before xs[k] (atL xs m) = false) (h : chk k (freeI xs k) = true) : chk (k + 1) (placeI xs) = true := by
  refine chk_step h0 ?_
  unfold placeI
  rw [atL_at xs k hk, h1, h]
  rcases h2 with rfl | ⟨m, hm, h2⟩
  · rfl
  · rw [show k - 1 = m by omega, h2]; simp
theorem freeI_step {xs : List Ln} {k : Nat} (hk : k < xs.length) (j : Nat) (h : clash xs[k] (atL xs j) = false) : freeI xs k j = true := by
  unfold freeI; rw [atL_at xs k hk, h]; rfl

end Go.Proofs.Ytemcdmjnokpldaa
/- Small laws for quiet calls. -/
namespace Go.Proofs.Ytemcdmjnokpldaa
open Go.RowKit Go.Joins

theorem rdN {w w' : World} {v : Value} {n sz : Nat} {cs : List Value} (h : Rd w w.heap.size v n sz cs) (hb : Below w.heap.size w w') : Rd w' w'.heap.size v n sz cs := (h.below hb).more hb.size
theorem own_posC {w : World} {base n size : Nat} {e : TypeId} {v : Value} {cs : List Value} (h : w.ownsRow base e size v n cs) (hn : 0 < n) : ∃ g cap, v = .slice (some ⟨g, 0, none⟩) n cap ∧ n ≤ cap ∧ cap ≤ maxLen := by
  rcases h.2 with ⟨_, h0⟩ | ⟨g, cap, _, hv, _, _, h1, h2, _⟩
  · omega
  · exact ⟨g, cap, hv, h1, h2⟩
theorem flipQ {P : Program} {f : FuncId} {args : Array Value} {w : World} {v : Value} (h : Calls P f args w fun e w' => e = .returned v ∧ w = w') : Calls P f args w fun e w' => e = .returned v ∧ w' = w :=
  h.mono fun _ _ ⟨h1, h2⟩ => ⟨h1, h2.symm⟩
theorem abs_mul {a b A B : Int} (ha : -A ≤ a ∧ a ≤ A) (hb : -B ≤ b ∧ b ≤ B) : -(A * B) ≤ a * b ∧ a * b ≤ A * B := by
  have h1 : a.natAbs ≤ A.natAbs := by omega
  have h2 : b.natAbs ≤ B.natAbs := by omega
  have h3 : (a * b).natAbs ≤ A.natAbs * B.natAbs := by rw [Int.natAbs_mul]; exact Nat.mul_le_mul h1 h2
  have h4 : (A * B).natAbs = A.natAbs * B.natAbs := Int.natAbs_mul A B
  have h5 : 0 ≤ A * B := Int.mul_nonneg (by omega) (by omega)
  omega

/-- a result of two fields in a block of its own: ahead of the store -/
theorem res2_pre {w w2 : World} {x y : Value} {t : TypeId} (h : Below (w.alloc (.cells #[x, y] t)).heap.size (w.alloc (.cells #[x, y] t)) w2) :
    w2.cell? ⟨w.heap.size, 0, none⟩ = some x ∧ w2.cell? ⟨w.heap.size, 1, none⟩ = some y ∧ w2.frozen? ⟨w.heap.size, 0, none⟩ = false ∧ w2.frozen? ⟨w.heap.size, 1, none⟩ = false :=
  blk2 ((h.block w.heap.size (by simp)).trans (heap_alloc_new w _))
/-- .. and behind it -/
theorem res2_post {w w2 : World} {x y : Value} {t : TypeId} (h : Below (w.alloc (.cells #[x, y] t)).heap.size (w.alloc (.cells #[x, y] t)) w2) (a b : Value) :
    ((w2.setCell ⟨w.heap.size, 0, none⟩ a).setCell ⟨w.heap.size, 1, none⟩ b).cell? ⟨w.heap.size, 0, none⟩ = some a ∧ ((w2.setCell ⟨w.heap.size, 0, none⟩ a).setCell ⟨w.heap.size, 1, none⟩ b).cell? ⟨w.heap.size, 1, none⟩ = some b ∧
    Below w.heap.size w ((w2.setCell ⟨w.heap.size, 0, none⟩ a).setCell ⟨w.heap.size, 1, none⟩ b) := by
  have g := heap_setCell_same _ w.heap.size 1 _ _ b (heap_setCell_same w2 w.heap.size 0 _ _ a ((h.block w.heap.size (by simp)).trans (heap_alloc_new w _)))
  obtain ⟨p, q, _, _⟩ := blk2 g
  exact ⟨p, q, ((((Below.refl w.heap.size w).alloc (Nat.le_refl _) _).trans (h.mono (by simp))).setCell (p := ⟨w.heap.size, 0, none⟩) (Nat.le_refl _) a).setCell (p := ⟨w.heap.size, 1, none⟩) (Nat.le_refl _) b⟩
theorem res2_own {w2 : World} {base B n sz : Nat} {e : TypeId} {v : Value} {xs : List Value} (h : w2.ownsRow base e sz v n xs) {g : Nat} (hg : g < base) (hB : B ≤ base) (a b : Value) : ((w2.setCell ⟨g, 0, none⟩ a).setCell ⟨g, 1, none⟩ b).ownsRow B e sz v n xs :=
  ownsRow_le (ownsRow_setCell_below (ownsRow_setCell_below h (a := ⟨g, 0, none⟩) hg a) (a := ⟨g, 1, none⟩) hg b) hB
/-- a boxed argument of two fields -/
theorem box2 {w : World} {x y : Value} {t : TypeId} : (w.alloc (.cells #[x, y] t)).cell? ⟨w.heap.size, 0, none⟩ = some x ∧ (w.alloc (.cells #[x, y] t)).cell? ⟨w.heap.size, 1, none⟩ = some y :=
  have h := blk2 (heap_alloc_new w (.cells #[x, y] t))
  ⟨h.1, h.2.1⟩

theorem cell_alloc {w : World} {g i : Nat} {v : Value} (h : w.cell? ⟨g, i, none⟩ = some v) (o : Obj) : (w.alloc o).cell? ⟨g, i, none⟩ = some v :=
  (((Below.refl w.heap.size w).alloc (Nat.le_refl _) o).cell (p := ⟨g, i, none⟩) (World.block_lt_of_cell? w _ h)).trans h
/-- append of new elements at a step of a region that draws, where the world has no draw of its own (behind a call) -/
theorem step_apd0 {P : Program} {w : World} {ops : Array Oper} {o : Oper} {a : Act} {K : Act → World → Prop} {Q : Exit → Act → World → Prop} {E : Prop} (t e : TypeId) (z : Value) (size bytes : Nat)
    (ht : P.underlying t = some (.slice e)) (hinfo : (P.info? e).map (fun i => (i.zero, i.size, i.bytes)) = some (some z, size, bytes)) (hzs : z.cells.size = size) (hsz : 0 < size)
    (s x : Operand) (hgd : o.guard = none) (ho : o.op = .call { callee := .builtin .append, args := #[s, x], argTypes := #[t, t] })
    (base : Nat) (v : Value) (n : Nat) (xs : List Value) (hs : a.eval s = v) (hown : w.ownsRow base e size v n xs)
    (cs : Array Value) (m c : Nat) (hx : a.eval x = .slice (some ⟨w.heap.size, 0, none⟩) m c) (hl : cs.toList.length = m * size) (h1 : ∀ u ∈ cs.toList, u.oneCell' = true)
    (h63 : n + m ≤ maxLen) (hbytes : (n + m) * bytes ≤ 140737488355328) (hbase : base ≤ w.heap.size)
    (h : ∀ v' w', w'.ownsRow base e size v' (n + m) (xs ++ cs.toList) → w.grownBy w' v.ownBlock → K (a.put o.dst v') w') :
    if Region.wanted o (yielded ops a.tmps) = true then Oper.wp P o a (w.alloc (.cells cs e)) K Q else E := by
  have hw : Region.wanted o (yielded ops a.tmps) = true := by simp [Region.wanted, hgd]
  rw [if_pos hw]
  exact wp_apd (w := w) t e z size bytes ht hinfo hzs hsz s x ho base v n xs hs hown cs m c hx hl h1 h63 hbytes hbase h
end Go.Proofs.Ytemcdmjnokpldaa
/- Blocks of four cells. -/
namespace Go.Proofs.Ytemcdmjnokpldaa
open Go.RowKit Go.Joins

abbrev put4 (w : World) (g : Nat) (a b c d : Value) : World := (((w.setCell ⟨g, 0, none⟩ a).setCell ⟨g, 1, none⟩ b).setCell ⟨g, 2, none⟩ c).setCell ⟨g, 3, none⟩ d
theorem blk4 {w : World} {g : Nat} {a b c d : Value} {t : TypeId} (h : w.heap[g]? = some (.cells #[a, b, c, d] t (0, 0))) :
    (w.cell? ⟨g, 0, none⟩ = some a ∧ w.cell? ⟨g, 1, none⟩ = some b ∧ w.cell? ⟨g, 2, none⟩ = some c ∧ w.cell? ⟨g, 3, none⟩ = some d) ∧
    (w.frozen? ⟨g, 0, none⟩ = false ∧ w.frozen? ⟨g, 1, none⟩ = false ∧ w.frozen? ⟨g, 2, none⟩ = false ∧ w.frozen? ⟨g, 3, none⟩ = false) :=
  ⟨four_at h, frozen_of_row w g 0 _ _ h, frozen_of_row w g 1 _ _ h, frozen_of_row w g 2 _ _ h, frozen_of_row w g 3 _ _ h⟩
/-- a result of four fields in a block of its own: ahead of the store -/
theorem res4_pre {w w2 : World} {x y z u : Value} {t : TypeId} (h : Below (w.alloc (.cells #[x, y, z, u] t)).heap.size (w.alloc (.cells #[x, y, z, u] t)) w2) :
    (w2.cell? ⟨w.heap.size, 0, none⟩ = some x ∧ w2.cell? ⟨w.heap.size, 1, none⟩ = some y ∧ w2.cell? ⟨w.heap.size, 2, none⟩ = some z ∧ w2.cell? ⟨w.heap.size, 3, none⟩ = some u) ∧
    (w2.frozen? ⟨w.heap.size, 0, none⟩ = false ∧ w2.frozen? ⟨w.heap.size, 1, none⟩ = false ∧ w2.frozen? ⟨w.heap.size, 2, none⟩ = false ∧ w2.frozen? ⟨w.heap.size, 3, none⟩ = false) :=
  blk4 ((h.block w.heap.size (by simp)).trans (heap_alloc_new w _))
/-- .. and behind it -/
theorem res4_post {w w2 : World} {x y z u : Value} {t : TypeId} (h : Below (w.alloc (.cells #[x, y, z, u] t)).heap.size (w.alloc (.cells #[x, y, z, u] t)) w2) (a b c d : Value) :
    ((put4 w2 w.heap.size a b c d).cell? ⟨w.heap.size, 0, none⟩ = some a ∧ (put4 w2 w.heap.size a b c d).cell? ⟨w.heap.size, 1, none⟩ = some b ∧ (put4 w2 w.heap.size a b c d).cell? ⟨w.heap.size, 2, none⟩ = some c ∧ (put4 w2 w.heap.size a b c d).cell? ⟨w.heap.size, 3, none⟩ = some d) ∧
    Below w.heap.size w (put4 w2 w.heap.size a b c d) := by
  have g := heap_setCell_same _ w.heap.size 3 _ _ d (heap_setCell_same _ w.heap.size 2 _ _ c (heap_setCell_same _ w.heap.size 1 _ _ b (heap_setCell_same w2 w.heap.size 0 _ _ a ((h.block w.heap.size (by simp)).trans (heap_alloc_new w _)))))
  refine ⟨(blk4 g).1, ?_⟩
  have h0 : Below w.heap.size w w2 := ((Below.refl w.heap.size w).alloc (Nat.le_refl _) _).trans (h.mono (by simp))
  exact (((h0.setCell (p := ⟨w.heap.size, 0, none⟩) (Nat.le_refl _) a).setCell (p := ⟨w.heap.size, 1, none⟩) (Nat.le_refl _) b).setCell (p := ⟨w.heap.size, 2, none⟩) (Nat.le_refl _) c).setCell (p := ⟨w.heap.size, 3, none⟩) (Nat.le_refl _) d
end Go.Proofs.Ytemcdmjnokpldaa
/- Drums: valid drums, both sides. -/
namespace Go.Proofs.Ytemcdmjnokpldaa
open Go.RowKit Go.Joins

structure Dm where
  k : Int
  b : Int
  t : Int
  f : Int
deriving DecidableEq
abbrev aggDm (d : Dm) : Value := .agg #[.int .i64 d.k, .int .i64 d.b, .int .i64 d.t, .int .i64 d.f]
/-- a drum's cells -/
structure DmAt (w : World) (b : Nat) (d : Dm) : Prop where
  c0 : w.cell? ⟨b, 0, none⟩ = some (.int .i64 d.k)
  c1 : w.cell? ⟨b, 1, none⟩ = some (.int .i64 d.b)
  c2 : w.cell? ⟨b, 2, none⟩ = some (.int .i64 d.t)
  c3 : w.cell? ⟨b, 3, none⟩ = some (.int .i64 d.f)
theorem DmAt.drewN {w : World} {b : Nat} {d : Dm} (h : DmAt w b d) (n : Nat) : DmAt (w.drewN n) b d := ⟨h.1, h.2, h.3, h.4⟩
theorem DmAt.of {w : World} {g : Nat} {d : Dm} {t : TypeId} (h : w.heap[g]? = some (.cells #[.int .i64 d.k, .int .i64 d.b, .int .i64 d.t, .int .i64 d.f] t (0, 0))) : DmAt w g d := by
  obtain ⟨⟨h0, h1, h2, h3⟩, _⟩ := blk4 h
  exact ⟨h0, h1, h2, h3⟩
def okDm (d : Dm) : Bool := inB d.k 1 3 && inB d.b 2 16 && inB d.t d.b 60 && (if d.k = 3 then decide (d.f = 0) else inB d.f 1 (d.t - d.b + 2))
theorem okDm_cases (d : Dm) : (inB d.k 1 3 = false ∧ okDm d = false) ∨ (inB d.k 1 3 = true ∧ inB d.b 2 16 = false ∧ okDm d = false) ∨ (inB d.k 1 3 = true ∧ inB d.b 2 16 = true ∧ inB d.t d.b 60 = false ∧ okDm d = false) ∨
    (inB d.k 1 3 = true ∧ inB d.b 2 16 = true ∧ inB d.t d.b 60 = true ∧ d.k = 3 ∧ okDm d = (d.f == 0)) ∨ (inB d.k 1 3 = true ∧ inB d.b 2 16 = true ∧ inB d.t d.b 60 = true ∧ d.k ≠ 3 ∧ okDm d = inB d.f 1 (d.t - d.b + 2)) := by
  unfold okDm
  cases inB d.k 1 3 <;> cases inB d.b 2 16 <;> cases inB d.t d.b 60 <;> simp
  by_cases h : d.k = 3
  · simp [h]; rfl
  · simp [h]
theorem inB_bd {n a b : Int} (h : inB n a b = true) : a ≤ n ∧ n ≤ b := by
  unfold inB at h
  simpa only [Bool.and_eq_true, decide_eq_true_eq] using h
/-- what a valid drum's numbers are -/
theorem okDm_bd {d : Dm} (h : okDm d = true) : (d.k = 1 ∨ d.k = 2 ∨ d.k = 3) ∧ 2 ≤ d.b ∧ d.b ≤ 16 ∧ d.b ≤ d.t ∧ d.t ≤ 60 ∧ (d.k = 3 → d.f = 0) ∧ (d.k ≠ 3 → 1 ≤ d.f ∧ d.f ≤ d.t - d.b + 2) := by
  rcases okDm_cases d with ⟨_, h2⟩ | ⟨_, _, h2⟩ | ⟨_, _, _, h2⟩ | ⟨h1, h2, h3, h4, h5⟩ | ⟨h1, h2, h3, h4, h5⟩
  · rw [h] at h2; cases h2
  · rw [h] at h2; cases h2
  · rw [h] at h2; cases h2
  · rw [h] at h5
    have := inB_bd h1; have := inB_bd h2; have := inB_bd h3
    have h6 : d.f = 0 := by simpa using h5.symm
    exact ⟨by omega, by omega, by omega, by omega, by omega, fun _ => h6, fun h => absurd h4 h⟩
  · rw [h] at h5
    have := inB_bd h1; have := inB_bd h2; have := inB_bd h3; have := inB_bd h5.symm
    exact ⟨by omega, by omega, by omega, by omega, by omega, fun h => absurd h h4, fun _ => by omega⟩

end Go.Proofs.Ytemcdmjnokpldaa
