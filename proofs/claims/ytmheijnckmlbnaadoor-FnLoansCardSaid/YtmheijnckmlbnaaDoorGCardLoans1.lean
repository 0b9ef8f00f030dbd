/- Merged texts: Lib, Base, Src, One, Lib5, Lib2, Lib3, Lib7, Dg1, Dr1, Strs, Args, ArgRows, En1, En2. -/
import Derived.WalkKit
import Derived.WalkSpells
import Derived.WalkLawsBesides
import Derived.Deep.QuietTactic
import Derived.BigQuiet
import Derived.StillTailTactics
import Derived.Laws.IdiomStrings
import Derived.Deep.RegionHeld3
import Derived.Deep.AppendLies
import Derived.Deep.DrawnRows
import Derived.Lib.Hide
import Derived.IntWalk
import Derived.KernelRfl
import Derived.Test.YtmheijnckmlbnaaDoorRows
import Derived.Lib.SmallJoins
import Derived.Laws.BitsAllLaws
import Derived.ProofKit
import Derived.OpenShut
import Derived.Deep.Slices
/- Laws of my own for walks: append of new elements to a row of the call's own; conversions of owned rows of bytes to strings. No program is named here but for the numbers of types. -/
namespace Go.Proofs.YtmheijnckmlbnaaDoor
open Go.RowKit

theorem ret_int {k : IntKind} {a b : Int} (h : a = b) : Ending.returned (.int k a) = .returned (.int k b) := by rw [h]

section
variable {P : Program}

/-- the cells of a block that has just been made -/
theorem new_cells (w : World) (cs : Array Value) (e : TypeId) : ∀ j u, cs.toList[j]? = some u → (w.alloc (.cells cs e)).cell? ((⟨w.heap.size, 0, none⟩ : Addr).add j) = some u := by
  intro j u hu
  have hadd : (⟨w.heap.size, 0, none⟩ : Addr).add j = ⟨w.heap.size, j, none⟩ := by unfold Addr.add; split <;> simp_all
  rw [hadd, cell_of_row (w.alloc (.cells cs e)) w.heap.size j cs e (0, 0) (heap_alloc_new w _)]
  simpa using hu

theorem wpList_apd {w : World} {ops : Array Oper} {rest : List Oper} {o : Oper} {a : Act} {Q : Exit → Act → World → Prop} (t e : TypeId) (z : Value) (size bytes : Nat)
    (ht : P.underlying t = some (.slice e)) (hinfo : (P.info? e).map (fun i => (i.zero, i.size, i.bytes)) = some (some z, size, bytes)) (hzs : z.cells.size = size) (hsz : 0 < size)
    (s x : Operand) (hgd : o.guard = none) (ho : o.op = .call { callee := .builtin .append, args := #[s, x], argTypes := #[t, t] })
    (base : Nat) (v : Value) (n : Nat) (xs : List Value) (hs : a.eval s = v) (hown : w.ownsRow base e size v n xs)
    (cs : Array Value) (m c : Nat) (hx : a.eval x = .slice (some ⟨w.heap.size, 0, none⟩) m c) (hl : cs.toList.length = m * size) (h1 : ∀ u ∈ cs.toList, u.oneCell' = true)
    (h63 : n + m ≤ maxLen) (hbytes : (n + m) * bytes ≤ 140737488355328) (hbase : base ≤ w.heap.size)
    (h : ∀ v' w', w'.ownsRow base e size v' (n + m) (xs ++ cs.toList) → w.grownBy w' v.ownBlock → wpList P ops Q rest (a.put o.dst v') w') :
    wpList P ops Q (o :: rest) a (w.alloc (.cells cs e)) := by
  obtain ⟨i, hi, hz, h2, h3⟩ := info_parts hinfo
  refine wpList_append_own _ hgd s x t ho base e i z size bytes ht hi hz h2 h3 hzs hsz v n xs hs (hown.alloc _) ⟨w.heap.size, 0, none⟩ m c cs.toList hx hl (new_cells w cs e) h1 h63 hbytes (by simp; omega) ?_
  intro v' w' ho' hg' _
  refine h v' w' ho' ⟨hg'.os, hg'.tape, hg'.output, Nat.le_trans (by simp) hg'.size, fun k hk hne => ?_⟩
  rw [hg'.block k (by simp; omega) hne]
  exact Below.heap_alloc w _ k hk

theorem wp_apd {w : World} {o : Oper} {a : Act} {K : Act → World → Prop} {Q : Exit → Act → World → Prop} (t e : TypeId) (z : Value) (size bytes : Nat)
    (ht : P.underlying t = some (.slice e)) (hinfo : (P.info? e).map (fun i => (i.zero, i.size, i.bytes)) = some (some z, size, bytes)) (hzs : z.cells.size = size) (hsz : 0 < size)
    (s x : Operand) (ho : o.op = .call { callee := .builtin .append, args := #[s, x], argTypes := #[t, t] })
    (base : Nat) (v : Value) (n : Nat) (xs : List Value) (hs : a.eval s = v) (hown : w.ownsRow base e size v n xs)
    (cs : Array Value) (m c : Nat) (hx : a.eval x = .slice (some ⟨w.heap.size, 0, none⟩) m c) (hl : cs.toList.length = m * size) (h1 : ∀ u ∈ cs.toList, u.oneCell' = true)
    (h63 : n + m ≤ maxLen) (hbytes : (n + m) * bytes ≤ 140737488355328) (hbase : base ≤ w.heap.size)
    (h : ∀ v' w', w'.ownsRow base e size v' (n + m) (xs ++ cs.toList) → w.grownBy w' v.ownBlock → K (a.put o.dst v') w') :
    o.wp P a (w.alloc (.cells cs e)) K Q := by
  obtain ⟨i, hi, hz, h2, h3⟩ := info_parts hinfo
  refine wp_append_own _ s x t ho base e i z size bytes ht hi hz h2 h3 hzs hsz v n xs hs (hown.alloc _) ⟨w.heap.size, 0, none⟩ m c cs.toList hx hl (new_cells w cs e) h1 h63 hbytes (by simp; omega) ?_
  intro v' w' ho' hg' _
  refine h v' w' ho' ⟨hg'.os, hg'.tape, hg'.output, Nat.le_trans (by simp) hg'.size, fun k hk hne => ?_⟩
  rw [hg'.block k (by simp; omega) hne]
  exact Below.heap_alloc w _ k hk

/-- the same at a step of a region that draws its order -/
theorem step_apd {w : World} {ops : Array Oper} {o : Oper} {a : Act} {K : Act → World → Prop} {Q : Exit → Act → World → Prop} {E : Prop} (t e : TypeId) (z : Value) (size bytes : Nat)
    (ht : P.underlying t = some (.slice e)) (hinfo : (P.info? e).map (fun i => (i.zero, i.size, i.bytes)) = some (some z, size, bytes)) (hzs : z.cells.size = size) (hsz : 0 < size)
    (s x : Operand) (hgd : o.guard = none) (ho : o.op = .call { callee := .builtin .append, args := #[s, x], argTypes := #[t, t] })
    (base : Nat) (v : Value) (n : Nat) (xs : List Value) (hs : a.eval s = v) (hown : w.ownsRow base e size v n xs)
    (cs : Array Value) (m c : Nat) (hx : a.eval x = .slice (some ⟨w.heap.size, 0, none⟩) m c) (hl : cs.toList.length = m * size) (h1 : ∀ u ∈ cs.toList, u.oneCell' = true)
    (h63 : n + m ≤ maxLen) (hbytes : (n + m) * bytes ≤ 140737488355328) (hbase : base ≤ w.heap.size)
    (h : ∀ v' w', w'.ownsRow base e size v' (n + m) (xs ++ cs.toList) → w.grownBy w' v.ownBlock → K (a.put o.dst v') w') :
    if Region.wanted o (yielded ops a.tmps) = true then Oper.wp P o a (w.alloc (.cells cs e)).drew K Q else E := by
  have hw : Region.wanted o (yielded ops a.tmps) = true := by simp [Region.wanted, hgd]
  rw [if_pos hw]
  refine wp_apd (w := w.drew) t e z size bytes ht hinfo hzs hsz s x ho base v n xs hs hown.drew cs m c hx hl h1 h63 hbytes hbase ?_
  intro v' w' h2 h3
  exact h v' w' h2 ⟨h3.os, h3.tape, h3.output, h3.size, h3.block⟩

/-- what an append to a row of the call's own does to what lay below -/
theorem below_apd {w w' : World} {B base : Nat} {W : World} {e : TypeId} {size n : Nat} {v : Value} {xs : List Value} (h : Below B W w) (hown : w.ownsRow base e size v n xs) (hg : w.grownBy w' v.ownBlock)
    (hB : B ≤ base) (hs : B ≤ w.heap.size) : Below B W w' :=
  h.grown hg hs (fun k hk => Nat.le_trans hB (hown.lt k hk).1)

theorem below_drewN {B : Nat} {a w : World} (h : Below B a w) (n : Nat) : Below B a (w.drewN n) := ⟨h.os, h.tape, h.output, h.size, h.block⟩
theorem below_undrew {B : Nat} {a w : World} (h : Below B a.drew w) : Below B a w := ⟨h.os, h.tape, h.output, h.size, h.block⟩
theorem below_undrewN {B n : Nat} {a w : World} (h : Below B (a.drewN n) w) : Below B a w := ⟨h.os, h.tape, h.output, h.size, h.block⟩
theorem grown_undrew {r : Option Nat} {a w : World} (h : a.drew.grownBy w r) : a.grownBy w r := ⟨h.os, h.tape, h.output, h.size, h.block⟩
theorem grown_of_below {a w : World} (h : Below a.heap.size a w) (r : Option Nat) : a.grownBy w r := ⟨h.os, h.tape, h.output, h.size, fun i hi _ => h.block i hi⟩
theorem grown_trans {a b c : World} {r : Option Nat} (h : a.grownBy b r) (k : b.grownBy c r) : a.grownBy c r :=
  ⟨k.os.trans h.os, k.tape.trans h.tape, k.output.trans h.output, Nat.le_trans h.size k.size, fun i hi hne => (k.block i (Nat.lt_of_lt_of_le hi h.size) hne).trans (h.block i hi hne)⟩
theorem own_below {w w' : World} {base : Nat} {e : TypeId} {size : Nat} {v : Value} {n : Nat} {xs : List Value} (h : w.ownsRow base e size v n xs) (hb : Below w.heap.size w w') : w'.ownsRow base e size v n xs :=
  h.kept (grown_of_below hb none) (by cases hv : v.ownBlock <;> simp)
theorem _root_.Go.World.ownsRow.drewN {w : World} {base : Nat} {e : TypeId} {size : Nat} {v : Value} {n : Nat} {xs : List Value} (h : w.ownsRow base e size v n xs) (k : Nat) : (w.drewN k).ownsRow base e size v n xs := h

theorem blk2 {w : World} {g : Nat} {a b : Value} {t : TypeId} (h : w.heap[g]? = some (.cells #[a, b] t (0, 0))) :
    w.cell? ⟨g, 0, none⟩ = some a ∧ w.cell? ⟨g, 1, none⟩ = some b ∧ w.frozen? ⟨g, 0, none⟩ = false ∧ w.frozen? ⟨g, 1, none⟩ = false :=
  ⟨by rw [cell_of_row w g 0 _ _ _ h]; rfl, by rw [cell_of_row w g 1 _ _ _ h]; rfl, frozen_of_row w g 0 _ _ h, frozen_of_row w g 1 _ _ h⟩
theorem grown_setCell {a w : World} {r : Option Nat} (h : a.grownBy w r) {p : Addr} (hp : some p.block = r ∨ a.heap.size ≤ p.block) (u : Value) : a.grownBy (w.setCell p u) r :=
  ⟨h.os, h.tape, h.output, by simpa [World.setCell] using h.size, fun i hi hne => (Below.heap_setCell w p u i (by
    rintro rfl
    rcases hp with hp | hp
    · exact hne hp
    · omega)).trans (h.block i hi hne)⟩
theorem grown_alloc {a w : World} {r : Option Nat} (h : a.grownBy w r) (o : Obj) : a.grownBy (w.alloc o) r :=
  ⟨h.os, h.tape, h.output, Nat.le_trans h.size (by simp), fun i hi hne => (Below.heap_alloc w o i (Nat.lt_of_lt_of_le hi h.size)).trans (h.block i hi hne)⟩
theorem grown_below {a b c : World} {r : Option Nat} (h : a.grownBy b r) (k : Below b.heap.size b c) : a.grownBy c r := grown_trans h (grown_of_below k r)
/-- a block that was made on the way: seen from before, it is new -/
theorem grown_from_alloc {a w : World} {o : Obj} {r : Option Nat} (h : (a.alloc o).grownBy w r) : a.grownBy w r :=
  ⟨h.os, h.tape, h.output, Nat.le_trans (by simp) h.size, fun i hi hne => (h.block i (by simp; omega) hne).trans (Below.heap_alloc a o i hi)⟩
theorem below_of_grown {a w : World} {r : Option Nat} {B : Nat} (h : a.grownBy w r) (hB : B ≤ a.heap.size) (hr : ∀ x, r = some x → B ≤ x) : Below B a w :=
  ⟨h.os, h.tape, h.output, h.size, fun i hi => h.block i (by omega) (fun e => by have := hr i e.symm; omega)⟩

/-- THE READING OF A SLICE: the value is a slice of n elements, whose cells (sz an element) lie below block B and hold cs. -/
def Rd (w : World) (B : Nat) (v : Value) (n sz : Nat) (cs : List Value) : Prop :=
  cs.length = n * sz ∧ ∃ A c, v = .slice A n c ∧ (0 < n * sz → ∃ b off, A = some ⟨b, off, none⟩ ∧ b < B ∧ ∀ i u, cs[i]? = some u → w.cell? ⟨b, off + i, none⟩ = some u)

theorem Rd.of_own {w : World} {base : Nat} {e : TypeId} {sz n : Nat} {v : Value} {cs : List Value} (h : w.ownsRow base e sz v n cs) : Rd w w.heap.size v n sz cs := by
  refine ⟨h.1, ?_⟩
  rcases h.2 with ⟨rfl, rfl⟩ | ⟨g, cap, cur, rfl, _, hg, _⟩
  · exact ⟨none, 0, rfl, fun h => by simp at h⟩
  · refine ⟨_, _, rfl, fun _ => ⟨g, 0, rfl, (Array.getElem?_eq_some_iff.1 hg).1, fun i u hu => ?_⟩⟩
    have := h.cells (g := g) rfl i u hu
    rw [show (⟨g, 0, none⟩ : Addr).add i = ⟨g, 0 + i, none⟩ by unfold Addr.add; split <;> simp_all] at this
    exact this
theorem Rd.keep {w w' : World} {B : Nat} {v : Value} {n sz : Nat} {cs : List Value} (h : Rd w B v n sz cs) (hk : ∀ p : Addr, p.block < B → w'.cell? p = w.cell? p) : Rd w' B v n sz cs := by
  obtain ⟨h1, A, c, hv, h2⟩ := h
  refine ⟨h1, A, c, hv, fun hn => ?_⟩
  obtain ⟨b, off, hA, hb, hc⟩ := h2 hn
  exact ⟨b, off, hA, hb, fun i u hu => (hk _ hb).trans (hc i u hu)⟩
theorem Rd.below {w w' : World} {B : Nat} {v : Value} {n sz : Nat} {cs : List Value} (h : Rd w B v n sz cs) (hb : Below B w w') : Rd w' B v n sz cs := h.keep fun _ hp => hb.cell hp
theorem Rd.more {w : World} {B B' : Nat} {v : Value} {n sz : Nat} {cs : List Value} (h : Rd w B v n sz cs) (hB : B ≤ B') : Rd w B' v n sz cs := by
  obtain ⟨h1, A, c, hv, h2⟩ := h
  refine ⟨h1, A, c, hv, fun hn => ?_⟩
  obtain ⟨b, off, hA, hb, hc⟩ := h2 hn
  exact ⟨b, off, hA, Nat.lt_of_lt_of_le hb hB, hc⟩
theorem Rd.drewN {w : World} {B : Nat} {v : Value} {n sz : Nat} {cs : List Value} (h : Rd w B v n sz cs) (k : Nat) : Rd (w.drewN k) B v n sz cs := h

theorem ba_app (a b : Array UInt8) : ((⟨a⟩ : ByteArray) ++ ⟨b⟩) = ⟨a ++ b⟩ := ByteArray.ext (by simp)
theorem ba_inj {a b : ByteArray} (h : a.toList = b.toList) : a = b := by
  rw [ByteArray.toList_eq, ByteArray.toList_eq] at h
  exact ByteArray.ext (by rw [← Array.toArray_toList (xs := a.data), h, Array.toArray_toList])

/-- a byte as a cell -/
def byV (c : UInt8) : Value := .int .u8 (c.toNat : Int)

theorem run_conv_own {w : World} (src dst e : TypeId) (hsrc : P.underlying src = some (.slice e)) (he : P.underlying e = some (.int .u8)) (hd : P.underlying dst = some .string)
    (base : Nat) (v : Value) (n : Nat) (l : List UInt8) (hown : w.ownsRow base e 1 v n (l.map byV)) : (convert src dst v).run P w = .ok (.string ⟨l.toArray⟩) w := by
  have hlen : l.length = n := by simpa using hown.1
  rcases hown.2 with ⟨rfl, h0⟩ | ⟨g, cap, cur, rfl, _, hg, _⟩
  · obtain rfl : l = [] := List.eq_nil_of_length_eq_zero (by omega)
    rw [run_convert_bytes_string w src dst e _ _ _ hsrc he hd]
    simp [Conv.bytesToString]; rfl
  · subst hlen
    refine run_convert_bytes_back w src dst e _ cap l hsrc he hd (fun j hj => ?_)
    have := hown.cells (g := g) rfl j (byV l[j]) (by simp [hj])
    exact this
theorem run_conv_one {w : World} (src dst e : TypeId) (hsrc : P.underlying src = some (.slice e)) (he : P.underlying e = some (.int .u8)) (hd : P.underlying dst = some .string) (c : UInt8) :
    (convert src dst (.slice (some ⟨w.heap.size, 0, none⟩) 1 1)).run P (w.alloc (.cells #[.int .u8 (c.toNat : Int)] e)) = .ok (.string ⟨#[c]⟩) (w.alloc (.cells #[.int .u8 (c.toNat : Int)] e)) :=
  run_convert_bytes_back _ src dst e _ 1 [c] hsrc he hd (fun j hj => by
    have : j = 0 := by simpa using hj
    subst this
    exact new_cells w #[.int .u8 (c.toNat : Int)] e 0 _ rfl)
end
end Go.Proofs.YtmheijnckmlbnaaDoor
/- Contracts for the small helpers (l00In, between). -/
namespace Go.Proofs.YtmheijnckmlbnaaDoor
open Go.RowKit

def inB (n low high : Int) : Bool := decide (low ≤ n) && decide (n ≤ high)

set_option maxHeartbeats 400000 in
theorem l00In_any (n low high : Int) (w : World) :
    Calls Tryd.prog 96 #[.int .i64 n, .int .i64 low, .int .i64 high] w fun e w' => e = .returned (.bool (inB n low high)) ∧ w = w' := by
  go_enter Tryd.func96, Tryd.ntmps96
  go_wp2
  all_goals (first | go_ret | skip)
  all_goals (refine ⟨?_, rfl⟩; simp_all [inB] <;> omega)

set_option maxHeartbeats 400000 in
theorem between_any (n low high : Int) (w : World) :
    Calls Tryd.prog 88 #[.int .i64 n, .int .i64 low, .int .i64 high] w fun e w' => e = .returned (.bool (inB n low high)) ∧ w = w' := by
  go_enter Tryd.func88, Tryd.ntmps88
  go_wp2
  all_goals (first | go_ret | skip)
  all_goals (refine ⟨?_, rfl⟩; simp_all [inB] <;> omega)

end Go.Proofs.YtmheijnckmlbnaaDoor
/- The source of draws (l00Src): what each draw hands back, and that only its own block turns. -/
namespace Go.Proofs.YtmheijnckmlbnaaDoor
open Go.RowKit Go.Joins

/-- block g is a source over the bytes bs, at most k of its draws are done; the bytes lie below block B -/
def SrcAt (w : World) (B g k : Nat) (bs : List UInt8) : Prop :=
  ∃ (cv : Value) (p s : Nat), w.heap[g]? = some (.cells #[cv, .int .i64 p, .int .u64 s] 114 (0, 0)) ∧ Rd w B cv bs.length 1 (bs.map byV) ∧ p ≤ k ∧ s < 18446744073709551616 ∧ B ≤ g

theorem SrcAt.lt {w : World} {B g k : Nat} {bs : List UInt8} (h : SrcAt w B g k bs) : g < w.heap.size := by
  obtain ⟨cv, p, s, h, _⟩ := h
  exact (Array.getElem?_eq_some_iff.1 h).1
theorem SrcAt.more {w : World} {B g k k' : Nat} {bs : List UInt8} (h : SrcAt w B g k bs) (hk : k ≤ k') : SrcAt w B g k' bs := by
  obtain ⟨cv, p, s, h1, h2, h3, h4, h5⟩ := h
  exact ⟨cv, p, s, h1, h2, by omega, h4, h5⟩
/-- kept by all that leaves its blocks alone -/
theorem SrcAt.grown {w w' : World} {B g k : Nat} {bs : List UInt8} {r : Option Nat} (h : SrcAt w B g k bs) (hg : w.grownBy w' r) (hr : ∀ x, r = some x → g < x) : SrcAt w' B g k bs := by
  obtain ⟨cv, p, s, h1, h2, h3, h4, h5⟩ := h
  have hlt := (Array.getElem?_eq_some_iff.1 h1).1
  refine ⟨cv, p, s, (hg.block g hlt (fun e => by have := hr g e.symm; omega)).trans h1, h2.keep fun q hq => World.cell?_of_block (hg.block q.block (by omega) (fun e => by have := hr _ e.symm; omega)), h3, h4, h5⟩
theorem SrcAt.below {w w' : World} {B g k : Nat} {bs : List UInt8} (h : SrcAt w B g k bs) (hb : Below w.heap.size w w') : SrcAt w' B g k bs := h.grown (grown_of_below hb none) (fun x hx => by cases hx)
theorem SrcAt.drewN {w : World} {B g k : Nat} {bs : List UInt8} (h : SrcAt w B g k bs) (n : Nat) : SrcAt (w.drewN n) B g k bs := h
theorem SrcAt.drew {w : World} {B g k : Nat} {bs : List UInt8} (h : SrcAt w B g k bs) : SrcAt w.drew B g k bs := h

/-- a draw: a number with a property is handed back, only block g has turned -/
def Drawn (w : World) (B g k : Nat) (bs : List UInt8) (p : Int → Prop) (e : Ending) (w' : World) : Prop :=
  ∃ x, e = .returned (.int .i64 x) ∧ p x ∧ SrcAt w' B g k bs ∧ w.grownBy w' (some g)

theorem src_cells {w : World} {g : Nat} {a b c : Value} {t : TypeId} (h : w.heap[g]? = some (.cells #[a, b, c] t (0, 0))) :
    w.cell? ⟨g, 0, none⟩ = some a ∧ w.cell? ⟨g, 1, none⟩ = some b ∧ w.cell? ⟨g, 2, none⟩ = some c ∧ ∀ i, w.frozen? ⟨g, i, none⟩ = false := by
  refine ⟨?_, ?_, ?_, fun i => ?_⟩
  · rw [cell_of_row w g 0 _ _ _ h]; rfl
  · rw [cell_of_row w g 1 _ _ _ h]; rfl
  · rw [cell_of_row w g 2 _ _ _ h]; rfl
  · exact frozen_of_row w g i _ _ h

theorem u64_bd (x : Int) : 0 ≤ IntKind.u64.wrap x ∧ IntKind.u64.wrap x < 18446744073709551616 := by
  rw [IntKind.wrap_u64]; omega

theorem src_step {w : World} {B g k p : Nat} {c0 c2 : Value} {bs : List UInt8} (h1 : w.heap[g]? = some (.cells #[c0, .int .i64 p, c2] 114 (0, 0))) (h2 : Rd w B c0 bs.length 1 (bs.map byV)) (h3 : p ≤ k) (h5 : B ≤ g) (X : Int) (a b : Nat) :
    SrcAt ((((w.drewN a).setCell ⟨g, 1, none⟩ (.int .i64 ((p : Int) + 1))).setCell ⟨g, 2, none⟩ (.int .u64 (IntKind.u64.wrap X))).drewN b) B g (k + 1) bs ∧
    w.grownBy ((((w.drewN a).setCell ⟨g, 1, none⟩ (.int .i64 ((p : Int) + 1))).setCell ⟨g, 2, none⟩ (.int .u64 (IntKind.u64.wrap X))).drewN b) (some g) := by
  have hh := u64_bd X
  have e1 := heap_setCell_same (w.drewN a) g 1 _ _ (.int .i64 ((p : Int) + 1)) h1
  have e2 := heap_setCell_same _ g 2 _ _ (.int .u64 (IntKind.u64.wrap X)) e1
  have hg : w.grownBy ((((w.drewN a).setCell ⟨g, 1, none⟩ (.int .i64 ((p : Int) + 1))).setCell ⟨g, 2, none⟩ (.int .u64 (IntKind.u64.wrap X))).drewN b) (some g) := by
    refine ⟨rfl, rfl, rfl, by simp [World.setCell, World.drewN], fun i _ hne => ?_⟩
    have hi : i ≠ g := fun e => hne (by rw [e])
    show ((((w.drewN a).setCell ⟨g, 1, none⟩ _).setCell ⟨g, 2, none⟩ _)).heap[i]? = _
    rw [Below.heap_setCell _ _ _ _ hi, Below.heap_setCell _ _ _ _ hi]
    rfl
  refine ⟨⟨c0, p + 1, (IntKind.u64.wrap X).toNat, ?_, ?_, by omega, by omega, h5⟩, hg⟩
  · rw [Int.toNat_of_nonneg hh.1]
    exact e2
  · refine h2.keep fun q hq => World.cell?_of_block ?_
    have hlt : g < w.heap.size := (Array.getElem?_eq_some_iff.1 h1).1
    exact hg.block q.block (by omega) (fun e => by injection e with e; omega)

theorem and255 (X : Int) (h0 : 0 ≤ X) (h1 : X < 18446744073709551616) : 0 ≤ wrap64 (bits .and .u64 X 255) ∧ wrap64 (bits .and .u64 X 255) ≤ 255 := by
  rw [u64_and X 255 h0 h1 (by omega) (by omega)]
  have h := Nat.and_le_right (n := X.toNat) (m := (255 : Int).toNat)
  have h' : (255 : Int).toNat = 255 := rfl
  rw [IntWalk.wrap64_in _ ⟨by omega, by omega⟩]
  omega

set_option maxRecDepth 100000 in
set_option maxHeartbeats 800000 in
theorem next_any (B g k : Nat) (bs : List UInt8) (w : World) (h : SrcAt w B g k bs) (hk : k < 4611686018427387904) :
    Calls Tryd.prog 93 #[.pointer (some ⟨g, 0, none⟩)] w (Drawn w B g (k + 1) bs fun x => 0 ≤ x ∧ x ≤ 255) := by
  obtain ⟨cv, p, s, h1, hRd, h3, h4, h5⟩ := h
  have hRd' := hRd
  obtain ⟨_, A, c, rfl, h2⟩ := hRd'
  have hRd := Lib.hid hRd
  obtain ⟨hc0, hc1, hc2, hfz⟩ := src_cells h1
  have hf1 := hfz 1
  have hf2 := hfz 2
  clear hfz
  have H1 := Lib.hid h1; clear h1
  have H2 := Lib.hid h2; clear h2
  by_cases hlt : p < bs.length
  · obtain ⟨b1, o1, rfl, hb1, hcc⟩ := H2.out (by omega)
    have hx := hcc p (byV bs[p]) (by simp [hlt])
    have hne : b1 ≠ g := by omega
    have hlt' : (p : Int) < (bs.length : Int) := by omega
    clear hcc
    unfold byV at hx
    have hx8 := bs[p].toNat_lt
    generalize bs[p].toNat = x at *
    have hxb : (x : Int) < 256 := by omega
    have hxi : (0 : Int) ≤ (x : Int) := by omega
    clear hx8
    have hwx : IntKind.i64.wrap (x : Int) = x := IntWalk.i64_in _ (by omega)
    go_enter Tryd.func93, Tryd.ntmps93
    go_wp2_with fail
    go_quiet (fail)
    go_wp2_with fail
    go_quiet (fail)
    clear hwx
    go_wp2_with fail
    go_quiet (fail)
    go_wp2_with fail
    go_ret
    have hs := src_step H1.out (hRd.out) h3 h5
    exact ⟨_, rfl, ⟨by omega, by omega⟩, (hs _ _ _).1, (hs _ _ _).2⟩
  · have hge : (bs.length : Int) ≤ (p : Int) := by omega
    go_enter Tryd.func93, Tryd.ntmps93
    go_wp2_with fail
    go_quiet (fail)
    go_wp2_with fail
    go_quiet (fail)
    go_wp2_with fail
    go_ret
    have hs := src_step H1.out (hRd.out) h3 h5
    exact ⟨_, rfl, and255 _ (by have := u64_bd (IntKind.u64.wrap (IntKind.u64.wrap ((s : Int) * 6364136223846793005)) + 1442695040888963407); omega) (by have := u64_bd (IntKind.u64.wrap (IntKind.u64.wrap ((s : Int) * 6364136223846793005)) + 1442695040888963407); omega), (hs _ _ _).1, (hs _ _ _).2⟩
/-- a draw: a bool is handed back -/
def DrawnB (w : World) (B g k : Nat) (bs : List UInt8) (e : Ending) (w' : World) : Prop :=
  ∃ x : Bool, e = .returned (.bool x) ∧ SrcAt w' B g k bs ∧ w.grownBy w' (some g)

set_option maxRecDepth 100000 in
set_option maxHeartbeats 800000 in
theorem pick_any (B g k : Nat) (bs : List UInt8) (n : Int) (w : World) (h : SrcAt w B g k bs) (hk : k < 4611686018427387900) :
    Calls Tryd.prog 66 #[.pointer (some ⟨g, 0, none⟩), .int .i64 n] w (Drawn w B g (k + 2) bs fun x => 0 ≤ x ∧ (2 ≤ n → x < n) ∧ (n ≤ 1 → x = 0)) := by
  by_cases h1 : n ≤ 1
  · have hg0 : w.grownBy w (some g) := ⟨rfl, rfl, rfl, Nat.le_refl _, fun _ _ _ => rfl⟩
    have H := Lib.hid h; clear h
    go_enter Tryd.func66, Tryd.ntmps66
    go_wp2_with fail
    go_ret
    exact ⟨0, rfl, ⟨by omega, by omega, by omega⟩, H.out.more (by omega), hg0⟩
  · by_cases h2 : n ≤ 200
    · have H := Lib.hid h; clear h
      go_enter Tryd.func66, Tryd.ntmps66
      go_wp2_with fail
      refine (next_any B g k bs _ H.out (by omega)).mono ?_; rintro e w1 ⟨x, rfl, ⟨hx0, hx1⟩, hs1, hg1⟩
      have Hs1 := Lib.hid hs1; clear hs1
      go_wp2_with fail
      go_ret
      have := Int.emod_nonneg x (by omega : n ≠ 0)
      have := Int.emod_lt_of_pos x (by omega : 0 < n)
      exact ⟨_, rfl, ⟨by omega, by omega, by omega⟩, Hs1.out.more (by omega), hg1⟩
    · have H := Lib.hid h; clear h
      go_enter Tryd.func66, Tryd.ntmps66
      go_wp2_with fail
      refine (next_any B g k bs _ H.out (by omega)).mono ?_; rintro e w1 ⟨x, rfl, ⟨hx0, hx1⟩, hs1, hg1⟩
      have Hs1 := Lib.hid hs1; clear hs1
      go_wp2_with fail
      refine (next_any B g (k + 1) bs _ Hs1.out (by omega)).mono ?_; rintro e w2 ⟨y, rfl, ⟨hy0, hy1⟩, hs2, hg2⟩
      have Hs2 := Lib.hid hs2; clear hs2
      have hg := grown_trans hg1 hg2
      go_wp2_with fail
      go_ret
      have := Int.emod_nonneg (x * 256 + y) (by omega : n ≠ 0)
      have := Int.emod_lt_of_pos (x * 256 + y) (by omega : 0 < n)
      exact ⟨_, rfl, ⟨by omega, by omega, by omega⟩, Hs2.out, hg⟩

set_option maxHeartbeats 400000 in
theorem l00From_any (B : Nat) (cv : Value) (bs : List UInt8) (w : World) (h : Rd w B cv bs.length 1 (bs.map byV)) (hB : B ≤ w.heap.size) :
    Calls Tryd.prog 42 #[cv] w fun e w' => e = .returned (.pointer (some ⟨w.heap.size, 0, none⟩)) ∧ SrcAt w' B w.heap.size 0 bs ∧ Below w.heap.size w w' ∧ w.heap.size < w'.heap.size := by
  have hb := (Below.refl w.heap.size w).alloc (Nat.le_refl _)
  have hs : ∀ t, SrcAt (w.alloc (.cells #[cv, .int .i64 0, .int .u64 0] t)) B w.heap.size 0 bs ∨ t ≠ 114 := fun t => by
    by_cases ht : t = 114
    · subst ht
      exact .inl ⟨cv, 0, 0, heap_alloc_new w _, h.below ((hb _).mono hB), Nat.le_refl _, by omega, hB⟩
    · exact .inr ht
  obtain ⟨_, A, c, rfl, h2⟩ := h
  clear h2
  have Hs := Lib.hid hs; clear hs
  go_enter Tryd.func42, Tryd.ntmps42
  go_wp2_with fail
  go_ret
  exact ⟨rfl, (Hs.out _).resolve_right (by simp), hb _, by simp⟩

end Go.Proofs.YtmheijnckmlbnaaDoor
/- The draw 'one'. -/
namespace Go.Proofs.YtmheijnckmlbnaaDoor
open Go.RowKit Go.Joins

set_option maxHeartbeats 400000 in
theorem one_any (B g k : Nat) (bs : List UInt8) (n : Int) (w : World) (h : SrcAt w B g k bs) (hk : k < 4611686018427387900) :
    Calls Tryd.prog 45 #[.pointer (some ⟨g, 0, none⟩), .int .i64 n] w (DrawnB w B g (k + 2) bs) := by
  have H := Lib.hid h; clear h
  go_enter Tryd.func45, Tryd.ntmps45
  go_wp2_with fail
  refine (pick_any B g k bs n _ H.out (by omega)).mono ?_; rintro e w1 ⟨x, rfl, _, hs1, hg1⟩
  have Hs1 := Lib.hid hs1; clear hs1
  go_wp2_with fail
  go_ret
  exact ⟨_, rfl, Hs1.out, hg1⟩

end Go.Proofs.YtmheijnckmlbnaaDoor
/- Small laws for quiet calls. -/
namespace Go.Proofs.YtmheijnckmlbnaaDoor
open Go.RowKit Go.Joins

theorem rdN {w w' : World} {v : Value} {n sz : Nat} {cs : List Value} (h : Rd w w.heap.size v n sz cs) (hb : Below w.heap.size w w') : Rd w' w'.heap.size v n sz cs := (h.below hb).more hb.size
theorem own_posC {w : World} {base n size : Nat} {e : TypeId} {v : Value} {cs : List Value} (h : w.ownsRow base e size v n cs) (hn : 0 < n) : ∃ g cap, v = .slice (some ⟨g, 0, none⟩) n cap ∧ n ≤ cap ∧ cap ≤ maxLen := by
  rcases h.2 with ⟨_, h0⟩ | ⟨g, cap, _, hv, _, _, h1, h2, _⟩
  · omega
  · exact ⟨g, cap, hv, h1, h2⟩
theorem flipQ {P : Program} {f : FuncId} {args : Array Value} {w : World} {v : Value} (h : Calls P f args w fun e w' => e = .returned v ∧ w = w') : Calls P f args w fun e w' => e = .returned v ∧ w' = w :=
  h.mono fun _ _ ⟨h1, h2⟩ => ⟨h1, h2.symm⟩
theorem abs_mul {a b A B : Int} (ha : -A ≤ a ∧ a ≤ A) (hb : -B ≤ b ∧ b ≤ B) : -(A * B) ≤ a * b ∧ a * b ≤ A * B := by
  have h1 : a.natAbs ≤ A.natAbs := by omega
  have h2 : b.natAbs ≤ B.natAbs := by omega
  have h3 : (a * b).natAbs ≤ A.natAbs * B.natAbs := by rw [Int.natAbs_mul]; exact Nat.mul_le_mul h1 h2
  have h4 : (A * B).natAbs = A.natAbs * B.natAbs := Int.natAbs_mul A B
  have h5 : 0 ≤ A * B := Int.mul_nonneg (by omega) (by omega)
  omega

/-- a result of two fields in a block of its own: ahead of the store -/
theorem res2_pre {w w2 : World} {x y : Value} {t : TypeId} (h : Below (w.alloc (.cells #[x, y] t)).heap.size (w.alloc (.cells #[x, y] t)) w2) :
    w2.cell? ⟨w.heap.size, 0, none⟩ = some x ∧ w2.cell? ⟨w.heap.size, 1, none⟩ = some y ∧ w2.frozen? ⟨w.heap.size, 0, none⟩ = false ∧ w2.frozen? ⟨w.heap.size, 1, none⟩ = false :=
  blk2 ((h.block w.heap.size (by simp)).trans (heap_alloc_new w _))
/-- .. and behind it -/
theorem res2_post {w w2 : World} {x y : Value} {t : TypeId} (h : Below (w.alloc (.cells #[x, y] t)).heap.size (w.alloc (.cells #[x, y] t)) w2) (a b : Value) :
    ((w2.setCell ⟨w.heap.size, 0, none⟩ a).setCell ⟨w.heap.size, 1, none⟩ b).cell? ⟨w.heap.size, 0, none⟩ = some a ∧ ((w2.setCell ⟨w.heap.size, 0, none⟩ a).setCell ⟨w.heap.size, 1, none⟩ b).cell? ⟨w.heap.size, 1, none⟩ = some b ∧
    Below w.heap.size w ((w2.setCell ⟨w.heap.size, 0, none⟩ a).setCell ⟨w.heap.size, 1, none⟩ b) := by
  have g := heap_setCell_same _ w.heap.size 1 _ _ b (heap_setCell_same w2 w.heap.size 0 _ _ a ((h.block w.heap.size (by simp)).trans (heap_alloc_new w _)))
  obtain ⟨p, q, _, _⟩ := blk2 g
  exact ⟨p, q, ((((Below.refl w.heap.size w).alloc (Nat.le_refl _) _).trans (h.mono (by simp))).setCell (p := ⟨w.heap.size, 0, none⟩) (Nat.le_refl _) a).setCell (p := ⟨w.heap.size, 1, none⟩) (Nat.le_refl _) b⟩
theorem res2_own {w2 : World} {base B n sz : Nat} {e : TypeId} {v : Value} {xs : List Value} (h : w2.ownsRow base e sz v n xs) {g : Nat} (hg : g < base) (hB : B ≤ base) (a b : Value) : ((w2.setCell ⟨g, 0, none⟩ a).setCell ⟨g, 1, none⟩ b).ownsRow B e sz v n xs :=
  ownsRow_le (ownsRow_setCell_below (ownsRow_setCell_below h (a := ⟨g, 0, none⟩) hg a) (a := ⟨g, 1, none⟩) hg b) hB
/-- a boxed argument of two fields -/
theorem box2 {w : World} {x y : Value} {t : TypeId} : (w.alloc (.cells #[x, y] t)).cell? ⟨w.heap.size, 0, none⟩ = some x ∧ (w.alloc (.cells #[x, y] t)).cell? ⟨w.heap.size, 1, none⟩ = some y :=
  have h := blk2 (heap_alloc_new w (.cells #[x, y] t))
  ⟨h.1, h.2.1⟩

theorem cell_alloc {w : World} {g i : Nat} {v : Value} (h : w.cell? ⟨g, i, none⟩ = some v) (o : Obj) : (w.alloc o).cell? ⟨g, i, none⟩ = some v :=
  (((Below.refl w.heap.size w).alloc (Nat.le_refl _) o).cell (p := ⟨g, i, none⟩) (World.block_lt_of_cell? w _ h)).trans h
/-- append of new elements at a step of a region that draws, where the world has no draw of its own (behind a call) -/
theorem step_apd0 {P : Program} {w : World} {ops : Array Oper} {o : Oper} {a : Act} {K : Act → World → Prop} {Q : Exit → Act → World → Prop} {E : Prop} (t e : TypeId) (z : Value) (size bytes : Nat)
    (ht : P.underlying t = some (.slice e)) (hinfo : (P.info? e).map (fun i => (i.zero, i.size, i.bytes)) = some (some z, size, bytes)) (hzs : z.cells.size = size) (hsz : 0 < size)
    (s x : Operand) (hgd : o.guard = none) (ho : o.op = .call { callee := .builtin .append, args := #[s, x], argTypes := #[t, t] })
    (base : Nat) (v : Value) (n : Nat) (xs : List Value) (hs : a.eval s = v) (hown : w.ownsRow base e size v n xs)
    (cs : Array Value) (m c : Nat) (hx : a.eval x = .slice (some ⟨w.heap.size, 0, none⟩) m c) (hl : cs.toList.length = m * size) (h1 : ∀ u ∈ cs.toList, u.oneCell' = true)
    (h63 : n + m ≤ maxLen) (hbytes : (n + m) * bytes ≤ 140737488355328) (hbase : base ≤ w.heap.size)
    (h : ∀ v' w', w'.ownsRow base e size v' (n + m) (xs ++ cs.toList) → w.grownBy w' v.ownBlock → K (a.put o.dst v') w') :
    if Region.wanted o (yielded ops a.tmps) = true then Oper.wp P o a (w.alloc (.cells cs e)) K Q else E := by
  have hw : Region.wanted o (yielded ops a.tmps) = true := by simp [Region.wanted, hgd]
  rw [if_pos hw]
  exact wp_apd (w := w) t e z size bytes ht hinfo hzs hsz s x ho base v n xs hs hown cs m c hx hl h1 h63 hbytes hbase h
end Go.Proofs.YtmheijnckmlbnaaDoor
/- Append of a row that is read to a row of the call's own. No program is named here. -/
namespace Go.Proofs.YtmheijnckmlbnaaDoor
open Go.RowKit

section
variable {P : Program}
theorem wpList_apr {w : World} {ops : Array Oper} {rest : List Oper} {o : Oper} {a : Act} {Q : Exit → Act → World → Prop} (t e : TypeId) (z : Value) (size bytes : Nat)
    (ht : P.underlying t = some (.slice e)) (hinfo : (P.info? e).map (fun i => (i.zero, i.size, i.bytes)) = some (some z, size, bytes)) (hzs : z.cells.size = size) (hsz : 0 < size)
    (s x : Operand) (hgd : o.guard = none) (ho : o.op = .call { callee := .builtin .append, args := #[s, x], argTypes := #[t, t] })
    (base : Nat) (v : Value) (n : Nat) (xs : List Value) (hs : a.eval s = v) (hown : w.ownsRow base e size v n xs)
    (b off m c : Nat) (cs : List Value) (hx : a.eval x = .slice (some ⟨b, off, none⟩) m c) (hl : cs.length = m * size) (hc : ∀ (i : Nat) (u : Value), cs[i]? = some u → w.cell? ⟨b, off + i, none⟩ = some u) (h1 : ∀ u ∈ cs, u.oneCell' = true)
    (h63 : n + m ≤ maxLen) (hbytes : (n + m) * bytes ≤ 140737488355328) (hbase : base ≤ w.heap.size)
    (h : ∀ v' w', w'.ownsRow base e size v' (n + m) (xs ++ cs) → w.grownBy w' v.ownBlock → wpList P ops Q rest (a.put o.dst v') w') :
    wpList P ops Q (o :: rest) a w := by
  obtain ⟨i, hi, hz, h2, h3⟩ := info_parts hinfo
  refine wpList_append_own _ hgd s x t ho base e i z size bytes ht hi hz h2 h3 hzs hsz v n xs hs hown ⟨b, off, none⟩ m c cs hx hl (fun j u hu => ?_) h1 h63 hbytes hbase ?_
  · have hadd : (⟨b, off, none⟩ : Addr).add j = ⟨b, off + j, none⟩ := by unfold Addr.add; split <;> simp_all
    rw [hadd]; exact hc j u hu
  · intro v' w' ho' hg' _
    exact h v' w' ho' hg'
end
end Go.Proofs.YtmheijnckmlbnaaDoor
/- A region that draws its order, step by step: an operation that is taken first, its slot given by number. No program is named here. -/
namespace Go.Proofs.YtmheijnckmlbnaaDoor
open Go.RowKit

section
variable {P : Program} {ops : Array Oper} {Q : Exit → Act → World → Prop} {md : Region.Mode} {S : World → Prop}
theorem take_d {i : Nat} {oi : Oper} {d : Option Nat} {v : Value} {fuel : Nat} {listed : Array Bool} {a : Act} {w : World} (hi : ops[i]? = some oi) (hd : oi.dst = d)
    (hs : Region.noSelect ops = true) (hf : Region.free md ops listed i = true) (hr : (Region.ready md ops listed).contains i = true)
    (hQ : ∀ c a w, Q (.panic c) (a.put d v) w → Q (.panic c) a w) (hy : YieldsIf P ops S oi v a) (hS : S w)
    (h : wpAnyH P md ops Q S fuel (listed.setIfInBounds i true) (a.put d v) w) : wpAnyH P md ops Q S (fuel + 1) listed a w := by
  subst hd
  exact wpAnyH_take hi hs hf hr hQ hy hS h
theorem call_d {i : Nat} {o : Oper} {d : Option Nat} {fuel : Nat} {listed : Array Bool} {a : Act} {w : World} (ho : ops[i]? = some o) (hd : o.dst = d) (hr : Region.ready md ops listed = [i])
    (h : ∀ K' : Act → World → Prop, Shut (∀ a w, S w → (S w → wpAnyH P md ops Q S fuel (listed.setIfInBounds i true) a w) → K' a w) → if Region.wanted o (yielded ops a.tmps) = true then Oper.wp P o a w K' Q else K' (a.put d undef) w) :
    wpAnyH P md ops Q S (fuel + 1) listed a w := by
  subst hd
  exact wpAnyH_ready hr (by simp) (AllReadyH.cons ho h AllReadyH.nil)
end
end Go.Proofs.YtmheijnckmlbnaaDoor
/- A region that draws its order and whose last operations write where the region has loaded: the loads are taken first; S is not asked behind those last operations (Ls). No program is named here. -/
namespace Go.Proofs.YtmheijnckmlbnaaDoor
open Go.RowKit

section
variable {P : Program} {ops : Array Oper} {Q : Exit → Act → World → Prop} {md : Region.Mode} {S : World → Prop} {L : Nat} {Ls : List Nat}

/-- every operation that has come up has those ahead of it come up -/
def ClosedL (md : Region.Mode) (ops : Array Oper) (listed : Array Bool) : Prop :=
  ∀ (k : Nat) (o : Oper), ops[k]? = some o → listed.getD k true = true → ∀ e ∈ o.after, Region.binds md e = true → listed.getD e.on false = true
def closedB (md : Region.Mode) (ops : Array Oper) (listed : Array Bool) : Bool :=
  (List.range ops.size).all fun k => !listed.getD k true || ((ops[k]?).map (·.after.all fun e => !Region.binds md e || listed.getD e.on false)).getD true
theorem closedB_spec {listed : Array Bool} (h : closedB md ops listed = true) : ClosedL md ops listed := by
  intro k o ho hk e he hb
  unfold closedB at h
  rw [List.all_eq_true] at h
  have h1 := h k (List.mem_range.2 (Array.getElem?_eq_some_iff.1 ho).1)
  rw [ho, hk] at h1
  simp only [Bool.not_true, Bool.false_or, Option.map_some, Option.getD_some] at h1
  have h2 := Array.all_eq_true_iff_forall_mem.1 h1 e he
  rw [hb] at h2
  simpa using h2
theorem ClosedL.set {listed : Array Bool} {j : Nat} (h : ClosedL md ops listed) (hj : j ∈ Region.ready md ops listed) : ClosedL md ops (listed.setIfInBounds j true) := by
  intro k o ho hk e he hb
  by_cases hkj : j = k
  · subst hkj
    obtain ⟨_, o', ho', hall⟩ := mem_ready.1 hj
    rw [ho] at ho'
    cases ho'
    exact getD_set_true (hall e he hb)
  · rw [getD_set_ne true hkj] at hk
    exact getD_set_true (h k o ho hk e he hb)
/-- a chain of operations, each of which waits for the next -/
def waitsB (md : Region.Mode) (ops : Array Oper) : List Nat → Bool
  | x :: y :: rest => (((ops[x]?).map (·.after.any fun e => Region.binds md e && e.on == y)).getD false) && waitsB md ops (y :: rest)
  | _ => true
theorem waits_cons {x y : Nat} {rest : List Nat} (h : waitsB md ops (x :: y :: rest) = true) : (∃ o, ops[x]? = some o ∧ ∃ e ∈ o.after, Region.binds md e = true ∧ e.on = y) ∧ waitsB md ops (y :: rest) = true := by
  unfold waitsB at h
  rw [Bool.and_eq_true] at h
  refine ⟨?_, h.2⟩
  cases ho : ops[x]? with
  | none => rw [ho] at h; simp at h
  | some o =>
    rw [ho] at h
    simp only [Option.map_some, Option.getD_some] at h
    obtain ⟨e, he, hb⟩ := Array.any_eq_true'.1 h.1
    simp only [Bool.and_eq_true, beq_iff_eq] at hb
    exact ⟨o, rfl, e, he, hb.1, hb.2⟩
theorem getD_ft {l : Array Bool} {i : Nat} (h : l.getD i false = true) : l.getD i true = true := by
  rcases Nat.lt_or_ge i l.size with h' | h'
  · simp [h'] at h ⊢; exact h
  · simp [Array.getElem?_eq_none h'] at h
theorem listed_last {listed : Array Bool} (hc : ClosedL md ops listed) : ∀ (rest : List Nat) (y : Nat), listed.getD y false = true → waitsB md ops (y :: rest) = true → listed.getD ((y :: rest).getLast (by simp)) false = true
  | [], _, h, _ => h
  | z :: rest, y, h, hw => by
    obtain ⟨⟨o, ho, e, he, hb, hon⟩, hw2⟩ := waits_cons hw
    have h2 := hc y o ho (getD_ft h) e he hb
    rw [hon] at h2
    have h3 := listed_last hc rest z h2 hw2
    rw [List.getLast_cons (by simp)]
    exact h3
def lateB (md : Region.Mode) (ops : Array Oper) (L : Nat) (p : List Nat) (i : Nat) : Bool := !p.isEmpty && waitsB md ops (L :: p) && p.getLast? == some i
theorem late_not {listed : Array Bool} {p : List Nat} {i : Nat} (hc : ClosedL md ops listed) (h : lateB md ops L p i = true) (hi : listed.getD i true = false) : L ∉ Region.ready md ops listed := by
  intro hL
  unfold lateB at h
  simp only [Bool.and_eq_true, beq_iff_eq] at h
  obtain ⟨⟨h0, h1⟩, h2⟩ := h
  cases p with
  | nil => simp at h0
  | cons y rest =>
    obtain ⟨⟨o, ho, e, he, hb, hon⟩, hw⟩ := waits_cons h1
    obtain ⟨_, o', ho', hall⟩ := mem_ready.1 hL
    rw [ho] at ho'
    cases ho'
    have hy := hall e he hb
    rw [hon] at hy
    have hl := listed_last hc rest y hy hw
    rw [List.getLast?_eq_some_getLast (by simp)] at h2
    injection h2 with h2
    rw [h2] at hl
    rw [getD_ft hl] at hi
    cases hi

/-- what comes behind L in a list -/
def behind (L : Nat) : List Nat → List Nat
  | [] => []
  | x :: l => if x == L then l else behind L l
/-- every one of Ls waits for i, by the chain Ls ++ p -/
def lateAll (md : Region.Mode) (ops : Array Oper) (Ls p : List Nat) (i : Nat) : Bool := Ls.all fun L => lateB md ops L (behind L (Ls ++ p)) i
theorem lateAll_spec {p : List Nat} {i : Nat} (h : lateAll md ops Ls p i = true) (hL : L ∈ Ls) : lateB md ops L (behind L (Ls ++ p)) i = true := List.all_eq_true.1 h L hL
/-- none of the last ones has come up -/
def noneL (Ls : List Nat) (listed : Array Bool) : Bool := Ls.all fun L => !listed.getD L false
theorem noneL_set {listed : Array Bool} {j : Nat} (hj : j ∉ Ls) (h : noneL Ls listed = true) : noneL Ls (listed.setIfInBounds j true) = true := by
  unfold noneL at *
  rw [List.all_eq_true] at *
  intro L hL
  rw [getD_set_ne false (show j ≠ L from fun e => hj (e ▸ hL))]
  exact h L hL
theorem noneL_of {listed : Array Bool} {j : Nat} (h : noneL Ls (listed.setIfInBounds j true) = true) : noneL Ls listed = true := by
  unfold noneL at *
  rw [List.all_eq_true] at *
  intro L hL
  have h1 := h L hL
  cases hb : listed.getD L false with
  | false => rfl
  | true => rw [getD_set_true hb] at h1; exact h1
/-- whatever order is picked, and S holds as long as none of the last ones has come up -/
def wpAnyL (P : Program) (md : Region.Mode) (ops : Array Oper) (Q : Exit → Act → World → Prop) (S : World → Prop) (Ls : List Nat) : Nat → Array Bool → Act → World → Prop
  | 0, listed, a, w => Region.ready md ops listed = [] ∧ Q .normal a w
  | fuel + 1, listed, a, w =>
    (Region.ready md ops listed = [] → Q .normal a w) ∧
    ∀ i ∈ Region.ready md ops listed, wpOp P ops Q i (fun a' w' => (noneL Ls (listed.setIfInBounds i true) = true → S w') ∧ wpAnyL P md ops Q S Ls fuel (listed.setIfInBounds i true) a' w') a w
theorem wpAny_of_L : ∀ (fuel : Nat) (listed : Array Bool) (a : Act) (w : World), wpAnyL P md ops Q S Ls fuel listed a w → wpAny P md ops Q fuel listed a w
  | 0, _, _, _, h => h
  | fuel + 1, _, _, _, h => ⟨h.1, fun i hi => wpOp_mono (fun a' w' h' => wpAny_of_L fuel _ a' w' h'.2) (h.2 i hi)⟩

theorem wpAnyL_first {S0 : World → Prop} {i : Nat} {oi : Oper} {v : Value} (hi : ops[i]? = some oi) (hsel : ∀ (j : Nat) (o : Oper) cs b, ops[j]? = some o → o.op ≠ .select cs b)
    (hQ : ∀ c a w, Q (.panic c) (a.put oi.dst v) w → Q (.panic c) a w) (hiL : i ∉ Ls) (p : List Nat) (hor : (lateAll md ops Ls p i = true ∧ ∀ w, S w → S0 w) ∨ ∀ w, S0 w) :
    ∀ (fuel : Nat) (listed : Array Bool) (a : Act) (w : World), ClosedL md ops listed → (noneL Ls listed = true → S w) → ((∀ w, S0 w) ∨ noneL Ls listed = true) →
      (∀ j oj, ops[j]? = some oj → j ≠ i → listed.getD j true = false → (∀ e ∈ oj.after, Region.binds md e = true → e.on ≠ i) → oi.apart ops oj = true) →
      i ∈ Region.ready md ops listed → YieldsIf P ops S0 oi v a →
      wpAnyL P md ops Q S Ls fuel (listed.setIfInBounds i true) (a.put oi.dst v) w → wpAnyL P md ops Q S Ls (fuel + 1) listed a w := by
  have hS0 : ∀ (listed : Array Bool) (w : World), (noneL Ls listed = true → S w) → ((∀ w, S0 w) ∨ noneL Ls listed = true) → S0 w := fun listed w hS hn => by
    rcases hn with h | h
    · exact h w
    · rcases hor with h' | h'
      · exact h'.2 w (hS h)
      · exact h' w
  intro fuel
  induction fuel with
  | zero =>
    intro listed a w _ hS hn _ hr hy H
    refine ⟨fun h => (by rw [h] at hr; cases hr), fun j hj => ?_⟩
    by_cases hji : j = i
    · subst hji
      exact hy.wpOp hi (hS0 listed w hS hn) ⟨fun h => hS (noneL_of h), H⟩
    · have hm := ready_mono hj hji
      rw [H.1] at hm
      cases hm
  | succ fuel ih =>
    intro listed a w hc hS hn hfree hr hy H
    refine ⟨fun h => (by rw [h] at hr; cases hr), fun j hj => ?_⟩
    by_cases hji : j = i
    · subst hji
      exact hy.wpOp hi (hS0 listed w hS hn) ⟨fun h => hS (noneL_of h), H⟩
    · have hu := (mem_ready.1 hr).1
      have h1 := H.2 j (ready_mono hj hji)
      have hn' : (∀ w, S0 w) ∨ noneL Ls (listed.setIfInBounds j true) = true := by
        rcases hn with h | h
        · exact .inl h
        · rcases hor with h' | h'
          · exact .inr (noneL_set (fun e => late_not hc (lateAll_spec h'.1 e) hu hj) h)
          · exact .inl h'
      obtain ⟨hjun, oj, hoj, hall⟩ := mem_ready.1 hj
      have hnot : ∀ e ∈ oj.after, Region.binds md e = true → e.on ≠ i := fun e he hb heq => by
        have h2 := hall e he hb
        rw [heq] at h2
        rw [getD_ft h2] at hu
        cases hu
      have h2 := wpOp_putIf hoj (hfree j oj hoj hji hjun hnot) (fun cs b => hsel i oi cs b hi) (fun cs b => hsel j oj cs b hoj) hQ hy h1
      have hfree' : ∀ k ok, ops[k]? = some ok → k ≠ i → (listed.setIfInBounds j true).getD k true = false →
          (∀ e ∈ ok.after, Region.binds md e = true → e.on ≠ i) → oi.apart ops ok = true := fun k ok hk hki hun hno => by
        by_cases hjk : j = k
        · subst hjk
          exact hfree j ok hk hki hjun hno
        · rw [getD_set_ne true hjk] at hun
          exact hfree k ok hk hki hun hno
      refine wpOp_mono (fun a' w' h3 => ?_) h2
      have hS' : noneL Ls (listed.setIfInBounds j true) = true → S w' := fun h => h3.2.1 (by
        rw [Array.setIfInBounds_comm _ _ (Ne.symm hji)]
        exact noneL_set hiL h)
      refine ⟨hS', ih (listed.setIfInBounds j true) a' w' (hc.set hj) hS' hn' hfree' (ready_mono hr (Ne.symm hji)) h3.1 ?_⟩
      rw [Array.setIfInBounds_comm _ _ hji]
      exact h3.2.2

/-- a load: taken first, under S -/
theorem take_L {i : Nat} {oi : Oper} {d : Option Nat} {v : Value} {fuel : Nat} {listed : Array Bool} {a : Act} {w : World} (p : List Nat) (hL : lateAll md ops Ls p i = true) (hc : closedB md ops listed = true) (hn : noneL Ls listed = true) (hiL : Ls.contains i = false) (hi : ops[i]? = some oi) (hd : oi.dst = d)
    (hs : Region.noSelect ops = true) (hf : Region.free md ops listed i = true) (hr : (Region.ready md ops listed).contains i = true)
    (hQ : ∀ c a w, Q (.panic c) (a.put d v) w → Q (.panic c) a w) (hy : YieldsIf P ops S oi v a) (hS : S w)
    (h : wpAnyL P md ops Q S Ls fuel (listed.setIfInBounds i true) (a.put d v) w) : wpAnyL P md ops Q S Ls (fuel + 1) listed a w := by
  subst hd
  exact wpAnyL_first hi (Region.noSelect_spec hs) hQ (fun e => by simp [e] at hiL) p (.inl ⟨hL, fun _ h => h⟩) fuel listed a w (closedB_spec hc) (fun _ => hS) (.inr hn) (Region.free_spec hi hf) (by simpa using hr) hy h
/-- what yields in whatever world: taken first -/
theorem take_F {i : Nat} {oi : Oper} {d : Option Nat} {v : Value} {fuel : Nat} {listed : Array Bool} {a : Act} {w : World} (hc : closedB md ops listed = true) (hiL : Ls.contains i = false) (hi : ops[i]? = some oi) (hd : oi.dst = d)
    (hs : Region.noSelect ops = true) (hf : Region.free md ops listed i = true) (hr : (Region.ready md ops listed).contains i = true)
    (hQ : ∀ c a w, Q (.panic c) (a.put d v) w → Q (.panic c) a w) (hy : YieldsIf P ops (fun _ => True) oi v a) (hS : S w)
    (h : wpAnyL P md ops Q S Ls fuel (listed.setIfInBounds i true) (a.put d v) w) : wpAnyL P md ops Q S Ls (fuel + 1) listed a w := by
  subst hd
  exact wpAnyL_first (S0 := fun _ => True) hi (Region.noSelect_spec hs) hQ (fun e => by simp [e] at hiL) [] (.inr fun _ => trivial) fuel listed a w (closedB_spec hc) (fun _ => hS) (.inl fun _ => trivial) (Region.free_spec hi hf) (by simpa using hr) hy h
/-- the only operation that may come up; S is shown anew -/
theorem call_L {i : Nat} {o : Oper} {d : Option Nat} {fuel : Nat} {listed : Array Bool} {a : Act} {w : World} (ho : ops[i]? = some o) (hd : o.dst = d) (hr : Region.ready md ops listed = [i])
    (h : ∀ K' : Act → World → Prop, Shut (∀ a w, S w → (S w → wpAnyL P md ops Q S Ls fuel (listed.setIfInBounds i true) a w) → K' a w) → if Region.wanted o (yielded ops a.tmps) = true then Oper.wp P o a w K' Q else K' (a.put d undef) w) :
    wpAnyL P md ops Q S Ls (fuel + 1) listed a w := by
  subst hd
  refine ⟨fun h0 => absurd (h0.symm.trans hr) (by simp), fun j hj => ?_⟩
  rw [hr] at hj
  obtain rfl := List.mem_singleton.1 hj
  exact wpOp_step ho (fun K' hK => h K' (fun a w hS hW => hK a w ⟨fun _ => hS, hW hS⟩))
/-- two operations that may come up -/
theorem both_L {i j : Nat} {oi oj : Oper} {di dj : Option Nat} {fuel : Nat} {listed : Array Bool} {a : Act} {w : World} (hoi : ops[i]? = some oi) (hdi : oi.dst = di) (hoj : ops[j]? = some oj) (hdj : oj.dst = dj) (hr : Region.ready md ops listed = [i, j])
    (h1 : ∀ K' : Act → World → Prop, Shut (∀ a w, S w → (S w → wpAnyL P md ops Q S Ls fuel (listed.setIfInBounds i true) a w) → K' a w) → if Region.wanted oi (yielded ops a.tmps) = true then Oper.wp P oi a w K' Q else K' (a.put di undef) w)
    (h2 : ∀ K' : Act → World → Prop, Shut (∀ a w, S w → (S w → wpAnyL P md ops Q S Ls fuel (listed.setIfInBounds j true) a w) → K' a w) → if Region.wanted oj (yielded ops a.tmps) = true then Oper.wp P oj a w K' Q else K' (a.put dj undef) w) :
    wpAnyL P md ops Q S Ls (fuel + 1) listed a w := by
  subst hdi
  subst hdj
  refine ⟨fun h0 => absurd (h0.symm.trans hr) (by simp), fun k hk => ?_⟩
  rw [hr] at hk
  rcases List.mem_cons.1 hk with rfl | hk
  · exact wpOp_step hoi (fun K' hK => h1 K' (fun a w hS hW => hK a w ⟨fun _ => hS, hW hS⟩))
  · obtain rfl := List.mem_singleton.1 hk
    exact wpOp_step hoj (fun K' hK => h2 K' (fun a w hS hW => hK a w ⟨fun _ => hS, hW hS⟩))
/-- .. and S is not asked -/
theorem late_L {i : Nat} {o : Oper} {d : Option Nat} {fuel : Nat} {listed : Array Bool} {a : Act} {w : World} (hi : noneL Ls (listed.setIfInBounds i true) = false) (ho : ops[i]? = some o) (hd : o.dst = d) (hr : Region.ready md ops listed = [i])
    (h : ∀ K' : Act → World → Prop, Shut (∀ a w, wpAnyL P md ops Q S Ls fuel (listed.setIfInBounds i true) a w → K' a w) → if Region.wanted o (yielded ops a.tmps) = true then Oper.wp P o a w K' Q else K' (a.put d undef) w) :
    wpAnyL P md ops Q S Ls (fuel + 1) listed a w := by
  subst hd
  refine ⟨fun h0 => absurd (h0.symm.trans hr) (by simp), fun j hj => ?_⟩
  rw [hr] at hj
  obtain rfl := List.mem_singleton.1 hj
  exact wpOp_step ho (fun K' hK => h K' (fun a w hW => hK a w ⟨fun hne => absurd (hi.symm.trans hne) (by simp), hW⟩))
theorem done_L {listed : Array Bool} {a : Act} {w : World} (hr : Region.ready md ops listed = []) (h : Q .normal a w) : ∀ fuel, wpAnyL P md ops Q S Ls fuel listed a w
  | 0 => ⟨hr, h⟩
  | _ + 1 => ⟨fun _ => h, by rw [hr]; simp⟩
theorem wp_region_L {id : Nat} {a : Act} {w : World} (Ls : List Nat) (S : World → Prop) (hm : P.follows .mixedOrders = true) (hS : S w.drew)
    (h : S w.drew → wpAnyL P .any ops Q S Ls ops.size (Array.replicate ops.size false) a w.drew) : (Code.region id ops true).wp P Q a w :=
  wp_region_any hm (wpAny_of_L _ _ _ _ (h hS))
end
end Go.Proofs.YtmheijnckmlbnaaDoor
/- Draws: a row of the call's own that grows while numbers are drawn; a text is spoilt (l01Spoil). -/
namespace Go.Proofs.YtmheijnckmlbnaaDoor
open Go.RowKit Go.Joins

/-- in the world w, reached from W: the source g has done at most k draws, v is a row of the call's own, and of what was there only the source has turned -/
structure DrR (W w : World) (B g k : Nat) (bs : List UInt8) (e : TypeId) (sz : Nat) (v : Value) (n : Nat) (cs : List Value) : Prop where
  lt : g < W.heap.size
  src : SrcAt w B g k bs
  row : w.ownsRow W.heap.size e sz v n cs
  gr : W.grownBy w (some g)
theorem DrR.draw {W w w' : World} {B g k k' : Nat} {bs : List UInt8} {e : TypeId} {sz n : Nat} {v : Value} {cs : List Value} (h : DrR W w B g k bs e sz v n cs) (hs : SrcAt w' B g k' bs) (hg : w.grownBy w' (some g)) : DrR W w' B g k' bs e sz v n cs :=
  ⟨h.lt, hs, h.row.kept hg (by
    cases hv : v.ownBlock with
    | none => exact .inl rfl
    | some x => exact .inr fun e => by have := (h.row.lt x hv).1; have := h.lt; injection e; omega), grown_trans h.gr hg⟩
theorem DrR.below {W w w' : World} {B g k : Nat} {bs : List UInt8} {e : TypeId} {sz n : Nat} {v : Value} {cs : List Value} (h : DrR W w B g k bs e sz v n cs) (hb : Below w.heap.size w w') : DrR W w' B g k bs e sz v n cs :=
  ⟨h.lt, h.src.below hb, own_below h.row hb, grown_below h.gr hb⟩
theorem DrR.more {W w : World} {B g k k' : Nat} {bs : List UInt8} {e : TypeId} {sz n : Nat} {v : Value} {cs : List Value} (h : DrR W w B g k bs e sz v n cs) (hk : k ≤ k') : DrR W w B g k' bs e sz v n cs :=
  ⟨h.lt, h.src.more hk, h.row, h.gr⟩
theorem grownBy_row {W w w' : World} {g : Nat} {ob : Option Nat} (h : W.grownBy w (some g)) (hg : w.grownBy w' ob) (ho : ∀ x, ob = some x → W.heap.size ≤ x) : W.grownBy w' (some g) :=
  ⟨hg.os.trans h.os, hg.tape.trans h.tape, hg.output.trans h.output, Nat.le_trans h.size hg.size, fun i hi hne => (hg.block i (Nat.lt_of_lt_of_le hi h.size) (fun e => by have := ho i e.symm; omega)).trans (h.block i hi hne)⟩
theorem DrR.app {W w w' : World} {B g k : Nat} {bs : List UInt8} {e : TypeId} {sz n n' : Nat} {v v' : Value} {cs cs' : List Value} (h : DrR W w B g k bs e sz v n cs) (hr : w'.ownsRow W.heap.size e sz v' n' cs') (hg : w.grownBy w' v.ownBlock) : DrR W w' B g k bs e sz v' n' cs' :=
  ⟨h.lt, h.src.grown hg (fun x hx => Nat.lt_of_lt_of_le h.lt (h.row.lt x hx).1), hr, grownBy_row h.gr hg (fun x hx => (h.row.lt x hx).1)⟩
theorem DrR.drewN {W w : World} {B g k : Nat} {bs : List UInt8} {e : TypeId} {sz n : Nat} {v : Value} {cs : List Value} (h : DrR W w B g k bs e sz v n cs) (m : Nat) : DrR W (w.drewN m) B g k bs e sz v n cs :=
  ⟨h.lt, h.src.drewN m, h.row.drewN m, grown_below h.gr (below_drewN (Below.refl _ _) m)⟩
theorem DrR.size {W w : World} {B g k : Nat} {bs : List UInt8} {e : TypeId} {sz n : Nat} {v : Value} {cs : List Value} (h : DrR W w B g k bs e sz v n cs) : W.heap.size ≤ w.heap.size := h.gr.size
theorem DrR.nil {W : World} {B g k : Nat} {bs : List UInt8} (h : SrcAt W B g k bs) (e : TypeId) (sz : Nat) : DrR W W B g k bs e sz (.slice none 0 0) 0 [] :=
  ⟨h.lt, h, ⟨by simp, .inl ⟨rfl, rfl⟩⟩, ⟨rfl, rfl, rfl, Nat.le_refl _, fun _ _ _ => rfl⟩⟩
theorem DrR.made {W : World} {B g k : Nat} {bs : List UInt8} (h : SrcAt W B g k bs) (e : TypeId) (sz : Nat) : DrR W (W.alloc (.cells #[] e)) B g k bs e sz (.slice (some ⟨W.heap.size, 0, none⟩) 0 0) 0 [] :=
  have hb := (Below.refl W.heap.size W).alloc (Nat.le_refl _) (.cells #[] e)
  ⟨h.lt, h.below hb, World.ownsRow_made (base := W.heap.size) (e := e) (size := sz) W #[] 0 (Nat.le_refl _) (by simp [maxLen]) (by simp), grown_of_below hb _⟩
/-- what a later call sees: the row's owner has gone on -/
theorem DrR.from {W W' w : World} {B g k : Nat} {bs : List UInt8} {e : TypeId} {sz n : Nat} {v : Value} {cs : List Value} (h : DrR W' w B g k bs e sz v n cs) (hg : W.grownBy W' (some g)) (hl : g < W.heap.size) : DrR W w B g k bs e sz v n cs :=
  ⟨hl, h.src, ownsRow_le h.row hg.size, grown_trans hg h.gr⟩

set_option maxRecDepth 100000 in
set_option maxHeartbeats 400000 in
theorem text_in (B g k b m : Nat) (l : List ByteArray) (bs : List UInt8) (w : World) (h : SrcAt w B g k bs) (hk : k < 4611686018427387800) (hm : l.length = m) (hm2 : 2 ≤ m) (hm3 : m ≤ 200) (hb : b ≠ g) (hbl : b < w.heap.size)
    (hc : ∀ i (hi : i < l.length), w.cell? ⟨b, i, none⟩ = some (.string l[i])) :
    Calls Tryd.prog 82 #[.pointer (some ⟨g, 0, none⟩), .slice (some ⟨b, 0, none⟩) m m] w fun e w' => ∃ z, z ∈ l ∧ e = .returned (.string z) ∧ SrcAt w' B g (k + 2) bs ∧ w.grownBy w' (some g) := by
  have H := Lib.hid h; clear h
  have Hc := Lib.hid hc; clear hc
  have hm4 : (m : Int) ≤ 200 := by omega
  go_enter Tryd.func82, Tryd.ntmps82
  go_wp2_with fail
  refine (pick_any B g k bs m _ H.out (by omega)).mono ?_; rintro e w1 ⟨x, rfl, ⟨hx0, hx1, _⟩, hs1, hg1⟩
  have Hs1 := Lib.hid hs1; clear hs1
  obtain ⟨i, rfl⟩ : ∃ i : Nat, x = i := ⟨x.toNat, by omega⟩
  have hx2 := hx1 (by omega)
  have hi : i < l.length := by omega
  have hcell := (World.cell?_of_block (a := ⟨b, i, none⟩) (hg1.block b hbl (fun e => hb (by injection e)))).trans (Hc.out i hi)
  have hmem := Lib.hid (List.getElem_mem hi)
  generalize l[i] = z at *
  clear hx1
  go_wp2_with fail
  go_ret
  exact ⟨z, hmem.out, rfl, Hs1.out, hg1⟩
theorem alloc_strs (w : World) (l : List ByteArray) (t : TypeId) : ∀ i (hi : i < l.length), (w.alloc (.cells (l.map Value.string).toArray t)).cell? ⟨w.heap.size, i, none⟩ = some (.string l[i]) := fun i hi => by
  have := new_cells w (l.map Value.string).toArray t i (.string l[i]) (by simp [hi])
  rwa [show (⟨w.heap.size, 0, none⟩ : Addr).add i = ⟨w.heap.size, i, none⟩ by unfold Addr.add; split <;> simp_all] at this
/-- .. from texts just laid out, in a region that draws its order -/
theorem text_new (B g k m : Nat) (l : List ByteArray) (bs : List UInt8) (w : World) (h : SrcAt w B g k bs) (hk : k < 4611686018427387800) (hm : l.length = m) (hm2 : 2 ≤ m) (hm3 : m ≤ 200) :
    Calls Tryd.prog 82 #[.pointer (some ⟨g, 0, none⟩), .slice (some ⟨w.heap.size, 0, none⟩) m m] (w.alloc (.cells (l.map Value.string).toArray 9)) fun e w' => ∃ z, z ∈ l ∧ e = .returned (.string z) ∧ SrcAt w' B g (k + 2) bs ∧ w.grownBy w' (some g) := by
  have hlt := h.lt
  refine (text_in B g k w.heap.size m l bs _ (h.below ((Below.refl w.heap.size w).alloc (Nat.le_refl _) _)) hk hm hm2 hm3 (by omega) (by simp) (alloc_strs w l _)).mono ?_
  rintro e w' ⟨z, h1, h2, h3, h4⟩
  exact ⟨z, h1, h2, h3, grown_from_alloc h4⟩
theorem text_newd (B g k m : Nat) (l : List ByteArray) (bs : List UInt8) (w : World) (h : SrcAt w B g k bs) (hk : k < 4611686018427387800) (hm : l.length = m) (hm2 : 2 ≤ m) (hm3 : m ≤ 200) :
    Calls Tryd.prog 82 #[.pointer (some ⟨g, 0, none⟩), .slice (some ⟨w.heap.size, 0, none⟩) m m] (w.alloc (.cells (l.map Value.string).toArray 9)).drew fun e w' => ∃ z, z ∈ l ∧ e = .returned (.string z) ∧ SrcAt w' B g (k + 2) bs ∧ w.grownBy w' (some g) := by
  have hlt := h.lt
  refine (text_in B g k w.heap.size m l bs _ (SrcAt.drew (h.below ((Below.refl w.heap.size w).alloc (Nat.le_refl _) _))) hk hm hm2 hm3 (by omega) (by simp) (fun i hi => alloc_strs w l 9 i hi)).mono ?_
  rintro e w' ⟨z, h1, h2, h3, h4⟩
  exact ⟨z, h1, h2, h3, grown_from_alloc (grown_undrew h4)⟩

theorem ne_some0 {s : ByteArray} (h : 0 < s.size) : s.toList.isEmpty = false := by
  rw [ByteArray.toList_eq, List.isEmpty_eq_false_iff]
  intro e
  have h1 : s.data.toList.length = s.size := by simp
  rw [e] at h1
  simp at h1; omega
theorem ne_none0 {s : ByteArray} (h : s.size = 0) : s.toList.isEmpty = true := by
  rw [ByteArray.toList_eq, List.isEmpty_iff]
  exact List.eq_nil_of_length_eq_zero (by simpa using h)
def spoilL : List ByteArray := [⟨#[32]⟩, ⟨#[48]⟩, ⟨#[45]⟩, ⟨#[120]⟩, ⟨#[49]⟩, ⟨#[57]⟩, ⟨#[46]⟩]
theorem spoilL_one : ∀ z ∈ spoilL, z.size = 1 := by decide
def RetSp (w : World) (B g k : Nat) (bs : List UInt8) (n : Nat) (e : Ending) (w' : World) : Prop := ∃ z : ByteArray, e = .returned (.string z) ∧ z.size ≤ n ∧ SrcAt w' B g k bs ∧ w.grownBy w' (some g)

set_option maxRecDepth 100000 in
set_option maxHeartbeats 1600000 in
theorem spoil_any (B g k : Nat) (bs : List UInt8) (t : ByteArray) (w : World) (h : SrcAt w B g k bs) (hk : k < 4611686018427380000) (ht : t.size ≤ 1073741824) :
    Calls Tryd.prog 63 #[.pointer (some ⟨g, 0, none⟩), .string t] w (RetSp w B g (k + 6) bs (t.size + 1)) := by
  have H := Lib.hid h; clear h
  go_enter Tryd.func63, Tryd.ntmps63
  go_wp2_with fail
  refine (pick_any B g k bs 5 _ H.out (by omega)).mono ?_; rintro e w1 ⟨x, rfl, ⟨hx0, hx1, _⟩, hs1, hg1⟩
  have Hs1 := Lib.hid hs1
  have Hg1 := Lib.hid hg1
  clear hs1 hg1 hx1 H
  by_cases e0 : x = 0
  · subst e0
    go_wp2_with fail
    refine (pick_any B g (k + 2) bs _ _ Hs1.out (by omega)).mono ?_; rintro e w2 ⟨y, rfl, ⟨hy0, hy1, hy2⟩, hs2, hg2⟩
    have Hs2 := Lib.hid hs2
    have Hg2 := Lib.hid (grown_trans Hg1.out hg2)
    obtain ⟨i, rfl⟩ : ∃ i : Nat, y = i := ⟨y.toNat, by omega⟩
    have hi : (i : Int) ≤ (t.size : Int) := by
      by_cases h1 : t.size = 0
      · have := hy2 (by omega); omega
      · have := hy1 (by omega); omega
    have hi2 : i ≤ t.size := by omega
    have hp1 : (t.extract 0 i).size = i := by rw [ByteArray.size_extract]; omega
    have hp2 : (t.extract i t.size).size = t.size - i := by rw [ByteArray.size_extract]; omega
    have Hp1 := Lib.hid hp1
    have Hp2 := Lib.hid hp2
    have hq1 : (t.extract 0 i).size ≤ 1073741824 := by omega
    have hq2 : (t.extract i t.size).size ≤ 1073741824 := by omega
    clear hs2 hg2 hy1 hy2 Hs1 Hg1 hp1 hp2
    go_wp2_with fail
    refine wp_region_noPanic ?_
    refine wp_region_L [] (fun _ => True) (by kernel_rfl) (trivial) (fun hHeld => ?_)
    refine take_F (i := 0) (d := some 16) (v := ?_) (by kernel_rfl) (by kernel_rfl) rfl rfl (by kernel_rfl) (by kernel_rfl) (by kernel_rfl) (fun _ _ _ h => h) (Or.inl ⟨by rfl, ?_⟩) (by assumption) ?_
    rotate_left
    · (intro w hSw; (try dsimp only at hSw); go_simp; (try rw [if_neg (by omega)]); (try (with_reducible rfl)))
    simp only [Act.put, List.setIfInBounds_toArray, List.set_cons_zero, List.set_cons_succ]
    refine take_F (i := 1) (d := some 17) (v := ?_) (by kernel_rfl) (by kernel_rfl) rfl rfl (by kernel_rfl) (by kernel_rfl) (by kernel_rfl) (fun _ _ _ h => h) (Or.inl ⟨by rfl, ?_⟩) (by assumption) ?_
    rotate_left
    · (intro w hSw; (try dsimp only at hSw); go_simp; (try rw [if_neg (by omega)]); (try (with_reducible rfl)))
    simp only [Act.put, List.setIfInBounds_toArray, List.set_cons_zero, List.set_cons_succ]
    refine take_F (i := 2) (d := some 18) (v := ?_) (by kernel_rfl) (by kernel_rfl) rfl rfl (by kernel_rfl) (by kernel_rfl) (by kernel_rfl) (fun _ _ _ h => h) (Or.inl ⟨by rfl, ?_⟩) (by assumption) ?_
    rotate_left
    · (intro w hSw; (try dsimp only at hSw); go_simp; (try rw [if_neg (by omega)]); (try (with_reducible rfl)))
    simp only [Act.put, List.setIfInBounds_toArray, List.set_cons_zero, List.set_cons_succ]
    refine take_F (i := 3) (d := some 19) (v := ?_) (by kernel_rfl) (by kernel_rfl) rfl rfl (by kernel_rfl) (by kernel_rfl) (by kernel_rfl) (fun _ _ _ h => h) (Or.inl ⟨by rfl, ?_⟩) (by assumption) ?_
    rotate_left
    · (intro w hSw; (try dsimp only at hSw); go_simp; (try rw [if_neg (by omega)]); (try (with_reducible rfl)))
    simp only [Act.put, List.setIfInBounds_toArray, List.set_cons_zero, List.set_cons_succ]
    refine take_F (i := 7) (d := some 23) (v := ?_) (by kernel_rfl) (by kernel_rfl) rfl rfl (by kernel_rfl) (by kernel_rfl) (by kernel_rfl) (fun _ _ _ h => h) (Or.inl ⟨by rfl, ?_⟩) (by assumption) ?_
    rotate_left
    · (intro w hSw; (try dsimp only at hSw); go_simp; (try rw [if_neg (by omega)]); (try (with_reducible rfl)))
    simp only [Act.put, List.setIfInBounds_toArray, List.set_cons_zero, List.set_cons_succ]
    refine take_F (i := 8) (d := some 24) (v := ?_) (by kernel_rfl) (by kernel_rfl) rfl rfl (by kernel_rfl) (by kernel_rfl) (by kernel_rfl) (fun _ _ _ h => h) (Or.inl ⟨by rfl, ?_⟩) (by assumption) ?_
    rotate_left
    · (intro w hSw; (try dsimp only at hSw); go_simp; (try rw [if_neg (by omega)]); (try (with_reducible rfl)))
    simp only [Act.put, List.setIfInBounds_toArray, List.set_cons_zero, List.set_cons_succ]
    refine take_F (i := 9) (d := some 25) (v := ?_) (by kernel_rfl) (by kernel_rfl) rfl rfl (by kernel_rfl) (by kernel_rfl) (by kernel_rfl) (fun _ _ _ h => h) (Or.inl ⟨by rfl, ?_⟩) (by assumption) ?_
    rotate_left
    · (intro w hSw; (try dsimp only at hSw); go_simp; (try rw [if_neg (by omega)]); (try (with_reducible rfl)))
    simp only [Act.put, List.setIfInBounds_toArray, List.set_cons_zero, List.set_cons_succ]
    refine call_L (i := 4) (d := (some 20)) rfl rfl (by kernel_rfl) (fun Kq hKq => ?_)
    go_simp
    refine hKq.out _ _ (trivial) (fun hHeld => ?_)
    clear hKq Kq
    (try simp only [Act.put, List.setIfInBounds_toArray, List.set_cons_zero, List.set_cons_succ])
    refine call_L (i := 5) (d := (some 21)) rfl rfl (by kernel_rfl) (fun Kq hKq => ?_)
    go_simp
    go_at_call 82
    refine (text_newd B g _ 7 spoilL bs w2 Hs2.out (by omega) rfl (by omega) (by omega)).mono ?_; rintro e w5 ⟨z, hz, rfl, hs5, hg5⟩
    have hz1 := spoilL_one z hz
    have Hz := Lib.hid hz1
    have hzl : z.size ≤ 1 := by omega
    have Hs5 := Lib.hid hs5
    have Hg5 := Lib.hid (grown_trans Hg2.out hg5)
    have hz3 : (t.extract 0 i ++ z).size ≤ 1073741825 := by rw [ByteArray.size_append]; omega
    clear hz hz1 hs5 hg5
    (try go_wp2_with fail)
    refine hKq.out _ _ (trivial) (fun hHeld => ?_)
    clear hKq Kq
    (try simp only [Act.put, List.setIfInBounds_toArray, List.set_cons_zero, List.set_cons_succ])
    refine take_F (i := 6) (d := some 22) (v := ?_) (by kernel_rfl) (by kernel_rfl) rfl rfl (by kernel_rfl) (by kernel_rfl) (by kernel_rfl) (fun _ _ _ h => h) (Or.inl ⟨by rfl, ?_⟩) (by assumption) ?_
    rotate_left
    · (intro w hSw; (try dsimp only at hSw); go_simp; (try rw [if_neg (by omega)]); (try (with_reducible rfl)))
    simp only [Act.put, List.setIfInBounds_toArray, List.set_cons_zero, List.set_cons_succ]
    refine take_F (i := 10) (d := some 26) (v := ?_) (by kernel_rfl) (by kernel_rfl) rfl rfl (by kernel_rfl) (by kernel_rfl) (by kernel_rfl) (fun _ _ _ h => h) (Or.inl ⟨by rfl, ?_⟩) (by assumption) ?_
    rotate_left
    · (intro w hSw; (try dsimp only at hSw); go_simp; (try rw [if_neg (by omega)]); (try (with_reducible rfl)))
    simp only [Act.put, List.setIfInBounds_toArray, List.set_cons_zero, List.set_cons_succ]
    refine take_F (i := 11) (d := some 1) (v := ?_) (by kernel_rfl) (by kernel_rfl) rfl rfl (by kernel_rfl) (by kernel_rfl) (by kernel_rfl) (fun _ _ _ h => h) (Or.inl ⟨by rfl, ?_⟩) (by assumption) ?_
    rotate_left
    · (intro w hSw; (try dsimp only at hSw); go_simp; (try rw [if_neg (by omega)]); (try (with_reducible rfl)))
    simp only [Act.put, List.setIfInBounds_toArray, List.set_cons_zero, List.set_cons_succ]
    refine done_L (by kernel_rfl) ?_ _
    refine NoPanic.normal ?_
    go_wp2_with fail
    go_ret
    exact ⟨_, rfl, by rw [ByteArray.size_append, ByteArray.size_append, Hp1.out, Hp2.out]; omega, Hs5.out.more (by omega), Hg5.out⟩
  · have hb0 : (x == 0) = false := by simpa using e0
    by_cases e1 : x = 1
    · subst e1
      by_cases ht0 : t.size = 0
      · have hn := ne_none0 ht0
        go_wp2_with fail
        go_ret
        exact ⟨t, rfl, by omega, Hs1.out.more (by omega), Hg1.out⟩
      · have hn := ne_some0 (s := t) (by omega)
        go_wp2_with fail
        refine (pick_any B g (k + 2) bs _ _ Hs1.out (by omega)).mono ?_; rintro e w2 ⟨y, rfl, ⟨hy0, hy1, hy2⟩, hs2, hg2⟩
        have Hs2 := Lib.hid hs2
        have Hg2 := Lib.hid (grown_trans Hg1.out hg2)
        obtain ⟨i, rfl⟩ : ∃ i : Nat, y = i := ⟨y.toNat, by omega⟩
        have hi : (i : Int) + 1 ≤ (t.size : Int) := by
          by_cases h1 : t.size = 1
          · have := hy2 (by omega); omega
          · have := hy1 (by omega); omega
        have hi3 : (i : Int) ≤ (t.size : Int) := by omega
        have hp1 : (t.extract 0 i).size = i := by rw [ByteArray.size_extract]; omega
        have hp2 : (t.extract (i + 1) t.size).size = t.size - (i + 1) := by rw [ByteArray.size_extract]; omega
        have Hp1 := Lib.hid hp1
        have Hp2 := Lib.hid hp2
        have hq1 : (t.extract 0 i).size ≤ 1073741824 := by omega
        have hq2 : (t.extract (i + 1) t.size).size ≤ 1073741824 := by omega
        have hw : IntKind.i64.wrap ((i : Int) + 1) = (i : Int) + 1 := IntWalk.i64_in _ (by omega)
        have hw0 : (0 : Int) ≤ (i : Int) + 1 := by omega
        have hw1 : ((i : Int) + 1).toNat = i + 1 := by omega
        clear hs2 hg2 hy1 hy2 Hs1 Hg1 hp1 hp2
        go_wp2_with fail
        go_quiet (fail)
        go_wp2_with fail
        go_ret
        exact ⟨_, rfl, by rw [ByteArray.size_append, Hp1.out, Hp2.out]; omega, SrcAt.drewN (Hs2.out.more (by omega)) _, grown_below Hg2.out (below_drewN (Below.refl _ _) _)⟩
    · have hb1 : (x == 1) = false := by simpa using e1
      go_wp2_with fail
      go_ret
      exact ⟨t, rfl, by omega, Hs1.out.more (by omega), Hg1.out⟩
end Go.Proofs.YtmheijnckmlbnaaDoor
/- Draws: one of some numbers is drawn. -/
namespace Go.Proofs.YtmheijnckmlbnaaDoor
open Go.RowKit Go.Joins

set_option maxHeartbeats 400000 in
theorem among_in (B g k m : Nat) (l : List Int) (bs : List UInt8) (w : World) (h : SrcAt w B g k bs) (hk : k < 4611686018427387800) (hm : l.length = m) (hm2 : 2 ≤ m) (hm3 : m ≤ 200) :
    Calls Tryd.prog 83 #[.pointer (some ⟨g, 0, none⟩), .slice (some ⟨w.heap.size, 0, none⟩) m m] (w.alloc (.cells (l.map (Value.int .i64)).toArray 2)) fun e w' => ∃ x : Int, x ∈ l ∧ e = .returned (.int .i64 x) ∧ SrcAt w' B g (k + 2) bs ∧ w.grownBy w' (some g) := by
  have hlt := h.lt
  have hbk := (Below.refl w.heap.size w).alloc (Nat.le_refl _) (.cells (l.map (Value.int .i64)).toArray 2)
  have hnc : ∀ i (hi : i < l.length), (w.alloc (.cells (l.map (Value.int .i64)).toArray 2)).cell? ⟨w.heap.size, i, none⟩ = some (.int .i64 l[i]) := fun i hi => by
    have := new_cells w (l.map (Value.int .i64)).toArray 2 i (.int .i64 l[i]) (by simp [hi])
    rwa [show (⟨w.heap.size, 0, none⟩ : Addr).add i = ⟨w.heap.size, i, none⟩ by unfold Addr.add; split <;> simp_all] at this
  have H := Lib.hid (h.below hbk); clear h
  have Hc := Lib.hid hnc; clear hnc
  have Hg := Lib.hid (fun w' (h : (w.alloc (.cells (l.map (Value.int .i64)).toArray 2)).grownBy w' (some g)) => grown_from_alloc h)
  have hsz : w.heap.size < (w.alloc (.cells (l.map (Value.int .i64)).toArray 2)).heap.size := by simp
  have hm4 : (m : Int) ≤ 200 := by omega
  clear hbk
  generalize w.alloc (.cells (l.map (Value.int .i64)).toArray 2) = wl at *
  go_enter Tryd.func83, Tryd.ntmps83
  go_wp2_with fail
  refine (pick_any B g k bs m _ H.out (by omega)).mono ?_; rintro e w1 ⟨x, rfl, ⟨hx0, hx1, _⟩, hs1, hg1⟩
  have Hs1 := Lib.hid hs1; clear hs1
  obtain ⟨i, rfl⟩ : ∃ i : Nat, x = i := ⟨x.toNat, by omega⟩
  have hx2 := hx1 (by omega)
  have hi : i < l.length := by omega
  have hcell := (World.cell?_of_block (a := ⟨w.heap.size, i, none⟩) (hg1.block w.heap.size hsz (fun e => by injection e; omega))).trans (Hc.out i hi)
  have hg2 := Hg.out _ hg1
  have hin := Lib.hid (show l[i] ∈ l from List.getElem_mem hi)
  generalize l[i] = z at *
  clear hx1 hg1
  go_wp2_with fail
  go_ret
  exact ⟨z, hin.out, rfl, Hs1.out, hg2⟩
end Go.Proofs.YtmheijnckmlbnaaDoor
/- Lists of texts: equality on three functions, the room that they take, copies. -/
namespace Go.Proofs.YtmheijnckmlbnaaDoor
open Go.RowKit Go.Joins

def strs (l : List ByteArray) : List Value := l.map Value.string
theorem strs_at (l : List ByteArray) (k : Nat) (h : k < l.length) : (strs l)[k]? = some (.string l[k]) := by simp [strs, h]
theorem infoSL : (Tryd.prog.info? 9).map (fun i => (i.zero, i.size, i.bytes)) = some (some (.string ⟨#[]⟩), 1, 16) := by kernel_rfl
theorem take_strs (zs : List ByteArray) (k : Nat) (h : k < zs.length) : strs (zs.take k) ++ [.string zs[k]] = strs (zs.take (k + 1)) := by
  rw [List.take_succ_eq_append_getElem h]; unfold strs; rw [List.map_append]; rfl
theorem rd_at {w : World} {B n c : Nat} {A : Option Addr} {zs : List ByteArray} (h : Rd w B (.slice A n c) zs.length 1 (strs zs)) (k : Nat) (hk : k < zs.length) :
    n = zs.length ∧ ∃ b off, A = some ⟨b, off, none⟩ ∧ w.cell? ⟨b, off + k, none⟩ = some (.string zs[k]) := by
  obtain ⟨_, A', c', hv, hc⟩ := h
  injection hv with e1 e2 e3
  subst e1
  obtain ⟨b, off, hA, _, hcc⟩ := hc (by omega)
  exact ⟨e2, b, off, hA, hcc k _ (strs_at zs k hk)⟩

set_option maxHeartbeats 400000 in
theorem eqStringS_any (B1 B2 : Nat) (v1 v2 : Value) (xs ys : List ByteArray) (w : World) (h1 : Rd w B1 v1 xs.length 1 (strs xs)) (h2 : Rd w B2 v2 ys.length 1 (strs ys)) (hx : xs.length ≤ 4611686018427387904) :
    Calls Tryd.prog 39 #[v1, v2] w fun e w' => e = .returned (.bool (decide (xs = ys))) ∧ ∃ n, w' = w.drewN n := by
  obtain ⟨_, A1, c1, rfl, h1⟩ := h1
  obtain ⟨_, A2, c2, rfl, h2⟩ := h2
  by_cases hlen : xs.length = ys.length
  · rw [← hlen] at h2
    have hb : ((xs.length : Int) != (xs.length : Int)) = false := by simp
    have Hlen := Lib.hid hlen
    rw [← hlen]
    clear hlen
    generalize hn : xs.length = n at *
    have Hn := Lib.hid hn; clear hn
    have H1 := Lib.hid h1; clear h1
    have H2 := Lib.hid h2; clear h2
    go_enter Tryd.func39, Tryd.ntmps39
    go_wp2_with fail
    go_loopw [5] (fun i wr => ∃ k m : Nat, k ≤ n ∧ i = .int .i64 k ∧ wr = w.drewN m ∧ xs.take k = ys.take k) (fun i _ => n - (intOf i).toNat)
    case atStart => exact ⟨0, 0, Nat.zero_le _, rfl, rfl, rfl⟩
    case round =>
      obtain ⟨k, m, hk, rfl, rfl, heq⟩ := hrel
      have Heq := Lib.hid heq; clear heq
      by_cases hlt : k < n
      · obtain ⟨b1, o1, rfl, _, hc1⟩ := H1.out (by omega)
        obtain ⟨b2, o2, rfl, _, hc2⟩ := H2.out (by omega)
        have hkx : k < xs.length := by have := Hn.out; omega
        have hky : k < ys.length := by have := Hn.out; have := Hlen.out; omega
        have hx := hc1 k _ (strs_at xs k hkx)
        have hy := hc2 k _ (strs_at ys k hky)
        have hlt' : (k : Int) < (n : Int) := by omega
        clear hc1 hc2
        generalize hX : xs[k] = X at *
        generalize hY : ys[k] = Y at *
        have HX := Lib.hid hX; clear hX
        have HY := Lib.hid hY; clear hY
        by_cases he : X = Y
        · subst he
          go_wp2_with fail
          go_quiet (fail)
          go_wp2_with fail
          go_roundw
          case rel => exact ⟨k + 1, _, by omega, by go_num, rfl, by rw [List.take_succ_eq_append_getElem hkx, List.take_succ_eq_append_getElem hky, Heq.out, HX.out, HY.out]⟩
          case measure => simp [intOf]; omega
        · have he' : (X.toList == Y.toList) = false := by rw [beq_eq_false_iff_ne]; exact fun h => he (ba_inj h)
          have hne := Lib.hid (show ¬ xs = ys from fun h => he (by subst h; rw [← HX.out, ← HY.out]))
          clear he
          go_wp2_with fail
          go_quiet (fail)
          go_wp2_with fail
          go_ret
          exact ⟨by simp [hne.out], m + nq, World.drewN_drewN ..⟩
      · have hfin := Lib.hid (show xs = ys by
          have := Heq.out
          rwa [List.take_of_length_le (by have := Hn.out; omega), List.take_of_length_le (by have := Hn.out; have := Hlen.out; omega)] at this)
        go_wp2_with fail
        go_ret
        exact ⟨by simp [hfin.out], _, rfl⟩
  · have hb : ((xs.length : Int) != (ys.length : Int)) = true := by simp; omega
    have hne := Lib.hid (show ¬ xs = ys from fun h => hlen (by rw [h]))
    clear hlen
    go_enter Tryd.func39, Tryd.ntmps39
    go_wp2_with fail
    go_ret
    exact ⟨by simp [hne.out], 0, rfl⟩

set_option maxHeartbeats 400000 in
theorem szStringS_any (B : Nat) (v : Value) (zs : List ByteArray) (left : Int) (w : World) (h : Rd w B v zs.length 1 (strs zs)) (hl : zs.length ≤ maxLen ∧ ∀ z ∈ zs, z.size ≤ maxLen) (q0 : 0 ≤ left) (q1 : left ≤ 1048576) :
    Calls Tryd.prog 94 #[v, .int .i64 left] w fun e w' => (∃ r : Int, e = .returned (.int .i64 r) ∧ r ≤ left ∧ (0 ≤ r → zs.length ≤ 1048576 ∧ ∀ z ∈ zs, z.size ≤ 1048576)) ∧ w = w' := by
  have h' := h
  obtain ⟨_, A, c, rfl, _⟩ := h'
  obtain ⟨hl1, hl2⟩ := hl
  have H := Lib.hid h; clear h
  have Hl2 := Lib.hid hl2; clear hl2
  simp only [maxLen] at hl1
  by_cases hbig : left < (zs.length : Int)
  · have hb : left - (zs.length : Int) < 0 := by omega
    go_enter Tryd.func94, Tryd.ntmps94
    go_wp2_with fail
    go_ret
    exact ⟨⟨_, rfl, by omega, by omega⟩, rfl⟩
  · have hb : ¬ left - (zs.length : Int) < 0 := by omega
    have hb0 : (0 : Int) ≤ left - (zs.length : Int) := by omega
    go_enter Tryd.func94, Tryd.ntmps94
    go_wp2_with fail
    go_loop [1, 5] (fun l i => ∃ (k : Nat) (r : Int), k ≤ zs.length ∧ 0 ≤ r ∧ r ≤ left ∧ (∀ z ∈ zs.take k, z.size ≤ 1048576) ∧ l = .int .i64 r ∧ i = .int .i64 k) (fun _ i => zs.length - (intOf i).toNat)
    case atStart => exact ⟨0, _, Nat.zero_le _, hb0, by omega, by simp, rfl, rfl⟩
    case round =>
      obtain ⟨k, r, hk, hr0, hr1, hall, rfl, rfl⟩ := hrel
      have Hall := Lib.hid hall; clear hall
      by_cases hlt : k < zs.length
      · obtain ⟨_, b1, o1, hA, hx⟩ := rd_at H.out k hlt
        subst hA
        have hz := Hl2.out zs[k] (List.getElem_mem _)
        simp only [maxLen] at hz
        have Hst := Lib.hid (show zs[k].size ≤ 1048576 → ∀ z ∈ zs.take (k + 1), z.size ≤ 1048576 from fun h z hz => by
          rw [List.take_succ_eq_append_getElem hlt] at hz
          rcases List.mem_append.1 hz with h1 | h1
          · exact Hall.out z h1
          · rw [List.mem_singleton.1 h1]; exact h)
        generalize zs[k] = z at *
        have hlt' : (k : Int) < (zs.length : Int) := by omega
        by_cases hsm : r - (z.size : Int) < 0
        · go_wp2_with fail
          go_ret
          exact ⟨⟨_, rfl, by omega, by omega⟩, rfl⟩
        · go_wp2_with fail
          go_round
          case rel => exact ⟨k + 1, r - (z.size : Int), by omega, by omega, by omega, Hst.out (by omega), rfl, by go_num⟩
          case measure => simp [intOf]; omega
      · have hfin := Hall.out
        rw [List.take_of_length_le (by omega)] at hfin
        have Hfin := Lib.hid hfin; clear hfin
        have hlt' : (zs.length : Int) ≤ (k : Int) := by omega
        go_wp2_with fail
        go_ret
        exact ⟨⟨_, rfl, hr1, fun _ => ⟨by omega, Hfin.out⟩⟩, rfl⟩

/-- a new list of the same strings -/
def RetS (w : World) (zs : List ByteArray) (e : Ending) (w' : World) : Prop := ∃ v, e = .returned v ∧ w'.ownsRow w.heap.size 9 1 v zs.length (strs zs) ∧ Below w.heap.size w w'

set_option maxHeartbeats 800000 in
theorem toStringS_any (B : Nat) (v : Value) (zs : List ByteArray) (w : World) (h : Rd w B v zs.length 1 (strs zs)) (hB : B ≤ w.heap.size) (hl : zs.length ≤ 1048576) :
    Calls Tryd.prog 97 #[v] w (RetS w zs) := by
  have h' := h
  obtain ⟨_, A, c, rfl, _⟩ := h'
  have H := Lib.hid h; clear h
  obtain ⟨i, hi, hz, h2, h3⟩ := info_parts infoSL
  obtain ⟨w1, hr, hown, hg⟩ := run_makeSlice_full (P := Tryd.prog) (w := w) w.heap.size 57 9 i _ 1 Tryd.underlying57 hi hz h2 .i64 .i64 zs.length (by omega) (by rw [h3]; omega) (by simp [maxLen]; omega) (Nat.le_refl _)
  have hb1 := below_of_grown hg (Nat.le_refl _) (fun x hx => by cases hx)
  generalize hxs : (madeCells (Value.cells (.string ⟨#[]⟩)) (zs.length * 1)).toList = xs at *
  have hxl : xs.length = zs.length := by simpa using hown.1
  have Hown := Lib.hid hown
  have Hb1 := Lib.hid hb1
  clear hi hz h2 h3 hxs hown hb1 hg
  go_enter Tryd.func97, Tryd.ntmps97
  go_wp2_with fail
  clear hr
  go_loopw [4] (fun i wr => ∃ k : Nat, k ≤ zs.length ∧ i = .int .i64 k ∧ wr.ownsRow w.heap.size 9 1 (.slice (some ⟨w.heap.size, 0, none⟩) zs.length zs.length) zs.length (strs (zs.take k) ++ xs.drop k) ∧ Below w.heap.size w wr) (fun i _ => zs.length - (intOf i).toNat)
  case atStart => exact ⟨0, Nat.zero_le _, rfl, by simpa [strs] using Hown.out, Hb1.out⟩
  case round =>
    obtain ⟨k, hk, rfl, hown, hbl⟩ := hrel
    by_cases hlt : k < zs.length
    · obtain ⟨_, b1, o1, hA, hx⟩ := rd_at (H.out.below (hbl.mono hB)) k hlt
      subst hA
      have hlt' : (k : Int) < (zs.length : Int) := by omega
      have hset : (strs (zs.take k) ++ xs.drop k).set k (.string zs[k]) = strs (zs.take (k + 1)) ++ xs.drop (k + 1) := by
        have hlen : (strs (zs.take k)).length = k := by simp [strs]; omega
        rw [List.set_append_right _ _ (by omega), hlen, Nat.sub_self, List.drop_eq_getElem_cons (by rw [hxl]; exact hlt), List.set_cons_zero, ← take_strs zs k hlt]
        simp
      have Hset := Lib.hid hset; clear hset
      generalize zs[k] = z at *
      obtain ⟨u, hu⟩ : ∃ u, (strs (zs.take k) ++ xs.drop k)[k]? = some u := ⟨_, List.getElem?_eq_getElem (by have := hown.1; omega)⟩
      have hc : wr.cell? ⟨w.heap.size, k, none⟩ = some u := (hown.cellAt k (by omega)).trans hu
      have hf : wr.frozen? ⟨w.heap.size, k, none⟩ = false := hown.frozenAt k
      obtain ⟨ho2, hg2⟩ := hown.stored k (.string z)
      rw [Hset.out] at ho2
      have hb2 : Below w.heap.size w (wr.setCell ⟨w.heap.size, k, none⟩ (.string z)) := hbl.setCell (p := ⟨w.heap.size, k, none⟩) (Nat.le_refl _) _
      clear hu hown hg2
      go_wp2_with fail
      go_roundw
      case rel => exact ⟨k + 1, by omega, by go_num, ho2, hb2⟩
      case measure => simp [intOf]; omega
    · rw [List.take_of_length_le (by omega), List.drop_of_length_le (by omega), List.append_nil] at hown
      have hlt' : (zs.length : Int) ≤ (k : Int) := by omega
      have Hown := Lib.hid hown; clear hown
      go_wp2_with fail
      go_ret
      exact ⟨_, rfl, Hown.out, hbl⟩

end Go.Proofs.YtmheijnckmlbnaaDoor
/- What a law's arguments read as, in the words of the walks: slices of numbers, of bytes. -/
namespace Go.Proofs.YtmheijnckmlbnaaDoor
open Go.ChangeShapes Go.WideShapes Go.ChangeAt Go.RowKit

section
variable {H : Type} {enc : TypeId × Value → H} {P : Program} {W : World}

theorem rd_ints {T E base : Nat} {k : IntKind} {r : Reach} {v : Value} {d : DataW H} {p : List MemPlace} (hT : P.underlying T = some (.slice E)) (hE : P.underlying E = some (.int k)) (hC : P.cellsOf E = 1)
    (ok : Value.okWide P W r base T v) (h : DataW.Trod enc P W 0 (fun _ => true) true T v d p) :
    ∃ zs : List Int, Rd W W.heap.size v zs.length 1 (zs.map (.int k)) ∧ zs.length ≤ maxLen ∧ ∀ z ∈ zs, (Lit.int k z).wf = true := by
  obtain ⟨a0, len, cap, rfl⟩ := okWide_slice hT ok
  obtain ⟨fuel, hf⟩ := h
  rcases open_ints hT hE hC hf with ⟨hcs, hx⟩ | ⟨a, len', cap', zs, hcs, _, hl, hm, hz, hx, hcell, hwz⟩
  · simp [Value.cells] at hcs
    obtain ⟨rfl, rfl, rfl⟩ := hcs
    exact ⟨[], ⟨rfl, none, 0, rfl, fun h => by simp at h⟩, by simp [maxLen], by simp⟩
  · simp [Value.cells] at hcs
    obtain ⟨rfl, rfl, rfl⟩ := hcs
    have hz' : zs.length = cap := by simpa using hz
    have hlen : (zs.take len).length = len := by rw [List.length_take]; omega
    refine ⟨zs.take len, ?_, by rw [hlen]; omega, fun z hzz => hwz z (List.mem_of_mem_take hzz)⟩
    rw [hlen]
    refine ⟨by simp; omega, some a, cap, rfl, fun hn => ?_⟩
    obtain ⟨b, off, rfl, hc⟩ := ints_at hcell (by omega)
    refine ⟨b, off, rfl, World.block_lt_of_cell? W _ (hc 0 (by omega)), fun i u hu => ?_⟩
    have hi : i < len := by
      have := (List.getElem?_eq_some_iff.1 hu).1
      simp at this; omega
    rw [hc i (by omega), ← hu]
    simp [hi, List.getD, (show i < zs.length by omega)]

theorem rd_bytes {T E base : Nat} {r : Reach} {v : Value} {d : DataW H} {p : List MemPlace} (hT : P.underlying T = some (.slice E)) (hE : P.underlying E = some (.int .u8)) (hC : P.cellsOf E = 1)
    (ok : Value.okWide P W r base T v) (h : DataW.Trod enc P W 0 (fun _ => true) true T v d p) :
    ∃ bs : List UInt8, Rd W W.heap.size v bs.length 1 (bs.map byV) ∧ bs.length ≤ maxLen := by
  obtain ⟨zs, h1, h2, h3⟩ := rd_ints hT hE hC ok h
  refine ⟨zs.map fun z => UInt8.ofNat z.toNat, ?_, by simpa using h2⟩
  have e : (zs.map fun z => UInt8.ofNat z.toNat).map byV = zs.map (.int .u8) := by
    rw [List.map_map]
    refine List.map_congr_left fun z hz => ?_
    have hb := bounds_u8 (h3 z hz)
    simp only [Function.comp, byV, UInt8.toNat_ofNat']
    congr 1
    omega
  rw [e]
  simpa using h1
end
end Go.Proofs.YtmheijnckmlbnaaDoor
/- What a law's arguments read as: slices of structs, as rows of cells. -/
namespace Go.Proofs.YtmheijnckmlbnaaDoor
open Go.ChangeShapes Go.WideShapes Go.ChangeAt Go.RowKit

/-- rows of equal width: cell j of row k -/
theorem flat_at {α : Type} (cells : α → List Value) (sz : Nat) (hc : ∀ x, (cells x).length = sz) : ∀ (xs : List α) (k j : Nat) (hk : k < xs.length), j < sz → (xs.flatMap cells)[k * sz + j]? = (cells xs[k])[j]?
  | [], k, j, hk, _ => by simp at hk
  | x :: xs, 0, j, _, hj => by
    rw [List.flatMap_cons, Nat.zero_mul, Nat.zero_add, List.getElem?_append_left (by rw [hc]; exact hj)]; rfl
  | x :: xs, k + 1, j, hk, hj => by
    rw [List.flatMap_cons, List.getElem?_append_right (by rw [hc, Nat.succ_mul]; omega), hc]
    have e : (k + 1) * sz + j - sz = k * sz + j := by rw [Nat.succ_mul]; omega
    rw [e, flat_at cells sz hc xs k j (by simpa using hk) hj]
    simp
theorem flat_len {α : Type} (cells : α → List Value) (sz : Nat) (hc : ∀ x, (cells x).length = sz) : ∀ xs : List α, (xs.flatMap cells).length = xs.length * sz
  | [] => by simp
  | x :: xs => by
    rw [List.flatMap_cons, List.length_append, hc, flat_len cells sz hc xs, List.length_cons, Nat.succ_mul]; omega

section
variable {H : Type} {enc : TypeId × Value → H} {P : Program} {W : World}

theorem rd_rows {α : Type} (cells : α → List Value) (good : α → Prop) {T E base sz : Nat} {r : Reach} {v : Value} {d : DataW H} {p : List MemPlace} (hT : P.underlying T = some (.slice E)) (hC : P.cellsOf E = sz) (hsz : 0 < sz) (hc : ∀ x, (cells x).length = sz)
    (elem : ∀ n cs y, DataW.trod enc P W 0 (fun _ => true) true n E cs = some y → ∃ x, cs = cells x ∧ good x)
    (ok : Value.okWide P W r base T v) (h : DataW.Trod enc P W 0 (fun _ => true) true T v d p) :
    ∃ xs : List α, Rd W W.heap.size v xs.length sz (xs.flatMap cells) ∧ xs.length ≤ maxLen ∧ ∀ x ∈ xs, good x := by
  obtain ⟨a0, len, cap, rfl⟩ := okWide_slice hT ok
  obtain ⟨fuel, hf⟩ := h
  rcases Go.Deep.open_slice hT hf with ⟨hcs, hx⟩ | ⟨a, len', cap', m, n, D, Pl, hcs, _, hl, hm, hmm, hx, hi⟩
  · simp [Value.cells] at hcs
    obtain ⟨rfl, rfl, rfl⟩ := hcs
    exact ⟨[], ⟨by simp, none, 0, rfl, fun h => by simp at h⟩, by simp [maxLen], by simp⟩
  · simp [Value.cells] at hcs
    obtain ⟨rfl, rfl, rfl⟩ := hcs
    have hm' : m = cap := by simpa using hmm
    subst hm'
    have hel : ∀ i : Nat, i < m → ∃ x, good x ∧ W.cells? 0 (a.add (i * sz)) sz = some (cells x) := fun i hi' => by
      obtain ⟨cs', h1, h2⟩ := hi i hi'
      obtain ⟨x, rfl, hg⟩ := elem _ _ _ h2
      rw [hC] at h1
      exact ⟨x, hg, h1⟩
    have hch : ∃ f : Fin len → α, ∀ i : Fin len, good (f i) ∧ W.cells? 0 (a.add (i * sz)) sz = some (cells (f i)) :=
      ⟨fun i => Classical.choose (hel i (by have := i.2; omega)), fun i => Classical.choose_spec (hel i (by have := i.2; omega))⟩
    obtain ⟨f, hff⟩ := hch
    have hlen : (List.ofFn f).length = len := List.length_ofFn
    refine ⟨List.ofFn f, ?_, by rw [hlen]; omega, fun x hx => ?_⟩
    · rw [hlen]
      refine ⟨by rw [flat_len cells sz hc, hlen], some a, m, rfl, fun hn => ?_⟩
      have hl0 : 0 < len := by
        rcases Nat.eq_zero_or_pos len with h | h
        · subst h; simp at hn
        · exact h
      have hcell : ∀ (k : Nat) (hk : k < len) (j : Nat), j < sz → W.cell? ((a.add (k * sz)).add j) = (cells (f ⟨k, hk⟩))[j]? := fun k hk j hj =>
        (World.cells?_some (hff ⟨k, hk⟩).2).2.2 j hj
      obtain ⟨b, off, spot⟩ := a
      have h00 := hcell 0 hl0 0 hsz
      rw [List.getElem?_eq_getElem (by rw [hc]; exact hsz)] at h00
      have hspot : spot = none := by simpa [Addr.add] using World.cell?_spot h00
      subst hspot
      have hadd : ∀ k j, ((⟨b, off, none⟩ : Addr).add (k * sz)).add j = ⟨b, off + (k * sz + j), none⟩ := fun k j => by
        rw [Go.WideShapes.add_plain, Go.WideShapes.add_plain, Nat.add_assoc]
      rw [hadd] at h00
      refine ⟨b, off, rfl, World.block_lt_of_cell? W _ h00, fun i u hu => ?_⟩
      have hil : i < len * sz := by
        have := (List.getElem?_eq_some_iff.1 hu).1
        rwa [flat_len cells sz hc, hlen] at this
      have hk : i / sz < len := by rw [Nat.div_lt_iff_lt_mul hsz]; exact hil
      have hj : i % sz < sz := Nat.mod_lt _ hsz
      have hdm : i / sz * sz + i % sz = i := by rw [Nat.mul_comm]; exact Nat.div_add_mod i sz
      have h1 := hcell (i / sz) hk (i % sz) hj
      rw [hadd, hdm] at h1
      have h2 := flat_at cells sz hc (List.ofFn f) (i / sz) (i % sz) (by rw [hlen]; exact hk) hj
      rw [hdm, List.getElem_ofFn] at h2
      rw [h1, ← h2, hu]
    · obtain ⟨i, rfl⟩ := List.mem_ofFn.1 hx
      exact (hff i).1
end
end Go.Proofs.YtmheijnckmlbnaaDoor
/- Entries, part 1: how lists of entries lie; the exact laws' helpers. -/
namespace Go.Proofs.YtmheijnckmlbnaaDoor
open Go.RowKit Go.Joins

structure Ent where
  num : Int
  name : ByteArray
  maker : ByteArray
  year : Int
  words : List ByteArray
deriving DecidableEq

/-- an entry's cells; the second part is the value of its words -/
def cellsE (x : Ent × Value) : List Value := [.int .i64 x.1.num, .string x.1.name, .string x.1.maker, .int .i64 x.1.year, x.2]
def RdW (w : World) (B : Nat) (y : Ent × Value) : Prop := Rd w B y.2 y.1.words.length 1 (strs y.1.words)
/-- THE READING OF A LIST OF ENTRIES -/
def RdE (w : World) (B : Nat) (v : Value) (xs : List Ent) : Prop :=
  ∃ ys : List (Ent × Value), ys.map (·.1) = xs ∧ Rd w B v xs.length 5 (ys.flatMap cellsE) ∧ ∀ y ∈ ys, RdW w B y
theorem RdE.below {w w' : World} {B : Nat} {v : Value} {xs : List Ent} (h : RdE w B v xs) (hb : Below B w w') : RdE w' B v xs := by
  obtain ⟨ys, h1, h2, h3⟩ := h
  exact ⟨ys, h1, h2.below hb, fun y hy => (h3 y hy).below hb⟩
theorem RdE.more {w : World} {B B' : Nat} {v : Value} {xs : List Ent} (h : RdE w B v xs) (hB : B ≤ B') : RdE w B' v xs := by
  obtain ⟨ys, h1, h2, h3⟩ := h
  exact ⟨ys, h1, h2.more hB, fun y hy => (h3 y hy).more hB⟩
theorem RdE.next {w w' : World} {v : Value} {xs : List Ent} (h : RdE w w.heap.size v xs) (hb : Below w.heap.size w w') : RdE w' w'.heap.size v xs := (h.below hb).more hb.size
theorem RdE.drewN {w : World} {B : Nat} {v : Value} {xs : List Ent} (h : RdE w B v xs) (n : Nat) : RdE (w.drewN n) B v xs := h
theorem RdE.slice {w : World} {B : Nat} {v : Value} {xs : List Ent} (h : RdE w B v xs) : ∃ A c, v = .slice A xs.length c := by
  obtain ⟨ys, h1, ⟨_, A, c, h2, _⟩, h3⟩ := h
  exact ⟨A, c, h2⟩

/-- the five cells of an entry -/
structure EntAt (w : World) (B b o : Nat) (x : Ent) (A : Option Addr) (c : Nat) : Prop where
  lt : b < B
  c0 : w.cell? ⟨b, o, none⟩ = some (.int .i64 x.num)
  c1 : w.cell? ⟨b, o + 1, none⟩ = some (.string x.name)
  c2 : w.cell? ⟨b, o + 2, none⟩ = some (.string x.maker)
  c3 : w.cell? ⟨b, o + 3, none⟩ = some (.int .i64 x.year)
  c4 : w.cell? ⟨b, o + 4, none⟩ = some (.slice A x.words.length c)
  words : Rd w B (.slice A x.words.length c) x.words.length 1 (strs x.words)
theorem EntAt.below {w w' : World} {B b o c : Nat} {x : Ent} {A : Option Addr} (h : EntAt w B b o x A c) (hb : Below B w w') : EntAt w' B b o x A c :=
  ⟨h.lt, (hb.cell (p := ⟨b, o, none⟩) h.lt).trans h.c0, (hb.cell (p := ⟨b, o + 1, none⟩) h.lt).trans h.c1, (hb.cell (p := ⟨b, o + 2, none⟩) h.lt).trans h.c2, (hb.cell (p := ⟨b, o + 3, none⟩) h.lt).trans h.c3, (hb.cell (p := ⟨b, o + 4, none⟩) h.lt).trans h.c4, h.words.below hb⟩
theorem EntAt.drewN {w : World} {B b o c : Nat} {x : Ent} {A : Option Addr} (h : EntAt w B b o x A c) (n : Nat) : EntAt (w.drewN n) B b o x A c := ⟨h.1, h.2, h.3, h.4, h.5, h.6, h.7⟩

theorem RdE.at {w : World} {B n c : Nat} {A : Option Addr} {xs : List Ent} (h : RdE w B (.slice A n c) xs) (k : Nat) (hk : k < xs.length) :
    ∃ b off A' c', A = some ⟨b, off, none⟩ ∧ EntAt w B b (off + k * 5) xs[k] A' c' := by
  obtain ⟨ys, h1, ⟨_, A0, c0, hv, hc⟩, h3⟩ := h
  subst h1
  injection hv with e1 e2 e3
  subst e1
  rw [List.length_map] at hk hc
  obtain ⟨b, off, hA, hb, hcc⟩ := hc (by omega)
  have hw := h3 ys[k] (List.getElem_mem hk)
  obtain ⟨_, A', c', hv', _⟩ := id hw
  have hx : (ys.map (·.1))[k]'(by simpa using hk) = ys[k].1 := by simp
  rw [hx]
  have hat : ∀ j u, j < 5 → (cellsE ys[k])[j]? = some u → w.cell? ⟨b, off + k * 5 + j, none⟩ = some u := fun j u hj hu => by
    have := hcc (k * 5 + j) u ((flat_at cellsE 5 (fun _ => rfl) ys k j hk hj).trans hu)
    rwa [← Nat.add_assoc] at this
  refine ⟨b, off, A', c', hA, ⟨hb, hat 0 _ (by omega) rfl, hat 1 _ (by omega) rfl, hat 2 _ (by omega) rfl, hat 3 _ (by omega) rfl, ?_, ?_⟩⟩
  · rw [← hv']; exact hat 4 _ (by omega) rfl
  · rw [← hv']; exact hw

theorem infoE : (Tryd.prog.info? 99).map (fun i => (i.zero, i.size, i.bytes)) = some (some (.agg #[.int .i64 0, .string ⟨#[]⟩, .string ⟨#[]⟩, .int .i64 0, .slice none 0 0]), 5, 72) := by kernel_rfl

/-- five cells of a block that is the call's own -/
theorem blk5 {w : World} {g : Nat} {a b c d e : Value} {t : TypeId} (h : w.heap[g]? = some (.cells #[a, b, c, d, e] t (0, 0))) :
    w.cell? ⟨g, 0, none⟩ = some a ∧ w.cell? ⟨g, 1, none⟩ = some b ∧ w.cell? ⟨g, 2, none⟩ = some c ∧ w.cell? ⟨g, 3, none⟩ = some d ∧ w.cell? ⟨g, 4, none⟩ = some e ∧ ∀ i, w.frozen? ⟨g, i, none⟩ = false := by
  refine ⟨?_, ?_, ?_, ?_, ?_, fun i => ?_⟩
  · rw [cell_of_row w g 0 _ _ _ h]; rfl
  · rw [cell_of_row w g 1 _ _ _ h]; rfl
  · rw [cell_of_row w g 2 _ _ _ h]; rfl
  · rw [cell_of_row w g 3 _ _ _ h]; rfl
  · rw [cell_of_row w g 4 _ _ _ h]; rfl
  · exact frozen_of_row w g i _ _ h

/-- a list of texts, copied: the slice is written out -/
theorem toStringS_c (B : Nat) (A : Option Addr) (c : Nat) (zs : List ByteArray) (w : World) (h : Rd w B (.slice A zs.length c) zs.length 1 (strs zs)) (hB : B ≤ w.heap.size) (hl : zs.length ≤ 1048576) :
    Calls Tryd.prog 97 #[.slice A zs.length c] w fun e w' => ∃ A' c', e = .returned (.slice A' zs.length c') ∧ w'.ownsRow w.heap.size 9 1 (.slice A' zs.length c') zs.length (strs zs) ∧ Below w.heap.size w w' := by
  refine (toStringS_any B _ zs w h hB hl).mono ?_
  rintro e w' ⟨v, rfl, ho, hb⟩
  obtain ⟨_, A', c', rfl, _⟩ := Rd.of_own ho
  exact ⟨A', c', rfl, ho, hb⟩

set_option maxRecDepth 100000 in
set_option maxHeartbeats 1600000 in
theorem toEntry_any (B : Nat) (x : Ent) (A : Option Addr) (c : Nat) (w : World) (h : Rd w B (.slice A x.words.length c) x.words.length 1 (strs x.words)) (hB : B ≤ w.heap.size) (hl : x.words.length ≤ 1048576) :
    Calls Tryd.prog 72 #[.agg #[.int .i64 x.num, .string x.name, .string x.maker, .int .i64 x.year, .slice A x.words.length c]] w fun e w' =>
      ∃ A' c', e = .returned (.agg #[.int .i64 x.num, .string x.name, .string x.maker, .int .i64 x.year, .slice A' x.words.length c']) ∧ w'.ownsRow w.heap.size 9 1 (.slice A' x.words.length c') x.words.length (strs x.words) ∧ Below w.heap.size w w' := by
  obtain ⟨num, name, maker, year, words⟩ := x
  simp only at *
  have HT := Lib.hid (fun wx hx hB => toStringS_c B A c words wx hx hB hl)
  have H := Lib.hid h
  go_enter Tryd.func72, Tryd.ntmps72
  go_wp2_with fail
  have hb3 := Lib.hid ((((Below.refl w.heap.size w).alloc (Nat.le_refl _) (.cells #[.int .i64 num, .string name, .string maker, .int .i64 year, .slice A words.length c] 90)).alloc (by simp) (.cells #[.int .i64 0, .string ⟨#[]⟩, .string ⟨#[]⟩, .int .i64 0, .slice none 0 0] 99)).alloc (by simp; omega) (.cells #[.int .i64 num, .string name, .string maker, .int .i64 year, .slice none 0 0] 99))
  have hr : ∀ i o, (i = 1 ∧ o = Obj.cells #[.int .i64 0, .string ⟨#[]⟩, .string ⟨#[]⟩, .int .i64 0, .slice none 0 0] 99 (0, 0)) ∨ (i = 2 ∧ o = Obj.cells #[.int .i64 num, .string name, .string maker, .int .i64 year, .slice none 0 0] 99 (0, 0)) → (((w.alloc (.cells #[.int .i64 num, .string name, .string maker, .int .i64 year, .slice A words.length c] 90)).alloc (.cells #[.int .i64 0, .string ⟨#[]⟩, .string ⟨#[]⟩, .int .i64 0, .slice none 0 0] 99)).alloc (.cells #[.int .i64 num, .string name, .string maker, .int .i64 year, .slice none 0 0] 99)).heap[w.heap.size + i]? = some o := by
    intro i o hi
    show (((w.heap.push _).push _).push _)[w.heap.size + i]? = _
    simp only [Array.getElem?_push, Array.size_push]
    rcases hi with ⟨rfl, rfl⟩ | ⟨rfl, rfl⟩ <;> simp
  have Hr := Lib.hid hr; clear hr
  have hz3 : (((w.alloc (.cells #[.int .i64 num, .string name, .string maker, .int .i64 year, .slice A words.length c] 90)).alloc (.cells #[.int .i64 0, .string ⟨#[]⟩, .string ⟨#[]⟩, .int .i64 0, .slice none 0 0] 99)).alloc (.cells #[.int .i64 num, .string name, .string maker, .int .i64 year, .slice none 0 0] 99)).heap.size = w.heap.size + 3 := by simp
  generalize ((w.alloc (.cells #[.int .i64 num, .string name, .string maker, .int .i64 year, .slice A words.length c] 90)).alloc (.cells #[.int .i64 0, .string ⟨#[]⟩, .string ⟨#[]⟩, .int .i64 0, .slice none 0 0] 99)).alloc (.cells #[.int .i64 num, .string name, .string maker, .int .i64 year, .slice none 0 0] 99) = w3 at *
  refine (HT.out _ (H.out.below (hb3.out.mono hB)) (by omega)).mono ?_; rintro e w4 ⟨A', c', rfl, ho4, hb4⟩
  have f1 := (hb4.block (w.heap.size + 1) (by omega)).trans (Hr.out 1 _ (.inl ⟨rfl, rfl⟩))
  have f2 := (hb4.block (w.heap.size + 1 + 1) (by omega)).trans (Hr.out 2 _ (.inr ⟨rfl, rfl⟩))
  obtain ⟨a0, a1, a2, a3, a4, a5⟩ := blk5 f1
  obtain ⟨b0, b1, b2, b3, b4, b5⟩ := blk5 f2
  have hb04 := hb3.out.trans (hb4.mono hb3.out.size)
  have g2 := heap_setCell_same w4 (w.heap.size + 1 + 1) 4 _ _ (.slice A' words.length c') f2
  have g1 : (w4.setCell ⟨w.heap.size + 1 + 1, 4, none⟩ (.slice A' words.length c')).heap[w.heap.size + 1]? = _ := (Below.heap_setCell _ _ _ _ (by simp)).trans f1
  have g3 := (heap_setCell_same _ (w.heap.size + 1) 4 _ _ (.slice A' words.length c') (heap_setCell_same _ (w.heap.size + 1) 3 _ _ (.int .i64 year) (heap_setCell_same _ (w.heap.size + 1) 2 _ _ (.string maker) (heap_setCell_same _ (w.heap.size + 1) 1 _ _ (.string name) (heap_setCell_same _ (w.heap.size + 1) 0 _ _ (.int .i64 num) g1)))))
  obtain ⟨p0, p1, p2, p3, p4, p5⟩ := blk5 g2
  obtain ⟨q0, q1, q2, q3, q4, _⟩ := blk5 g3
  have Hbe := Lib.hid ((((((hb04.setCell (p := ⟨w.heap.size + 1 + 1, 4, none⟩) (by simp; omega) (.slice A' words.length c')).setCell (p := ⟨w.heap.size + 1, 0, none⟩) (by simp) (.int .i64 num)).setCell (p := ⟨w.heap.size + 1, 1, none⟩) (by simp) (.string name)).setCell (p := ⟨w.heap.size + 1, 2, none⟩) (by simp) (.string maker)).setCell (p := ⟨w.heap.size + 1, 3, none⟩) (by simp) (.int .i64 year)).setCell (p := ⟨w.heap.size + 1, 4, none⟩) (by simp) (.slice A' words.length c'))
  have Hoe := Lib.hid (ownsRow_le (ownsRow_setCell_below (ownsRow_setCell_below (ownsRow_setCell_below (ownsRow_setCell_below (ownsRow_setCell_below (ownsRow_setCell_below ho4 (a := ⟨w.heap.size + 1 + 1, 4, none⟩) (by show w.heap.size + 1 + 1 < w3.heap.size; omega) (.slice A' words.length c')) (a := ⟨w.heap.size + 1, 0, none⟩) (by show w.heap.size + 1 < w3.heap.size; omega) (.int .i64 num)) (a := ⟨w.heap.size + 1, 1, none⟩) (by show w.heap.size + 1 < w3.heap.size; omega) (.string name)) (a := ⟨w.heap.size + 1, 2, none⟩) (by show w.heap.size + 1 < w3.heap.size; omega) (.string maker)) (a := ⟨w.heap.size + 1, 3, none⟩) (by show w.heap.size + 1 < w3.heap.size; omega) (.int .i64 year)) (a := ⟨w.heap.size + 1, 4, none⟩) (by show w.heap.size + 1 < w3.heap.size; omega) (.slice A' words.length c')) (base' := w.heap.size) (by omega))
  have k10 := a5 0
  have k11 := a5 1
  have k12 := a5 2
  have k13 := a5 3
  have k14 := a5 4
  have k24 := b5 4
  clear f1 f2 g1 g2 g3 hb4 hb04 ho4 hz3 a5 b5 p5
  go_wp2_with fail
  exact bodyPost_ret (v := .agg #[.int .i64 num, .string name, .string maker, .int .i64 year, .slice A' words.length c']) (by simp [results, Tryd.results72, go_sem, q0, q1, q2, q3, q4]) rfl ⟨_, _, rfl, Hoe.out, Hbe.out⟩
end Go.Proofs.YtmheijnckmlbnaaDoor
/- Entries, part 2: copies, equality and room of lists of entries; the reading of an argument. -/
namespace Go.Proofs.YtmheijnckmlbnaaDoor
open Go.RowKit Go.Joins

theorem set5 (l r : List Value) (n : Nat) (hn : l.length = n) (hr : 5 ≤ r.length) (a b c d e : Value) :
    (((((l ++ r).set n a).set (n + 1) b).set (n + 2) c).set (n + 3) d).set (n + 4) e = (l ++ [a, b, c, d, e]) ++ r.drop 5 := by
  subst hn
  match r, hr with
  | x0 :: x1 :: x2 :: x3 :: x4 :: r, _ =>
    rw [List.set_append_right _ _ (Nat.le_refl _), List.set_append_right _ _ (by omega), List.set_append_right _ _ (by omega), List.set_append_right _ _ (by omega), List.set_append_right _ _ (by omega)]
    simp

/-- a new list of the same entries -/
def RetE (w : World) (xs : List Ent) (e : Ending) (w' : World) : Prop :=
  ∃ ys : List (Ent × Value), e = .returned (.slice (some ⟨w.heap.size, 0, none⟩) xs.length xs.length) ∧ ys.map (·.1) = xs ∧ w'.ownsRow w.heap.size 99 5 (.slice (some ⟨w.heap.size, 0, none⟩) xs.length xs.length) xs.length (ys.flatMap cellsE) ∧
    (∀ y ∈ ys, w'.ownsRow (w.heap.size + 1) 9 1 y.2 y.1.words.length (strs y.1.words)) ∧ Below w.heap.size w w'
theorem Rd.of_own' {w : World} {base : Nat} {e : TypeId} {sz n : Nat} {v : Value} {cs : List Value} (h : w.ownsRow base e sz v n cs) : Rd w w.heap.size v n sz cs := Rd.of_own h

set_option maxRecDepth 100000 in
set_option maxHeartbeats 3200000 in
theorem toEntryS_any (B : Nat) (v : Value) (xs : List Ent) (w : World) (h : RdE w B v xs) (hB : B ≤ w.heap.size) (hl : xs.length ≤ 1048576) (hws : ∀ x ∈ xs, x.words.length ≤ 1048576) :
    Calls Tryd.prog 30 #[v] w (RetE w xs) := by
  have H := Lib.hid h
  obtain ⟨A, c, rfl⟩ := h.slice
  have Hws := Lib.hid hws
  obtain ⟨i, hi, hz, h2, h3⟩ := info_parts infoE
  obtain ⟨w1, hr, hown, hg⟩ := run_makeSlice_full (P := Tryd.prog) (w := w) w.heap.size 50 99 i _ 5 Tryd.underlying50 hi hz h2 .i64 .i64 xs.length (by omega) (by rw [h3]; omega) (by simp [maxLen]; omega) (Nat.le_refl _)
  have hb1 := below_of_grown hg (Nat.le_refl _) (fun x hx => by cases hx)
  generalize hxs : (madeCells (Value.cells (.agg #[.int .i64 0, .string ⟨#[]⟩, .string ⟨#[]⟩, .int .i64 0, .slice none 0 0])) (xs.length * 5)).toList = zs at *
  have hxl : zs.length = xs.length * 5 := by simpa using hown.1
  have Hown := Lib.hid hown
  have Hb1 := Lib.hid hb1
  have Hxl := Lib.hid hxl
  clear hi hz h2 h3 hxs hown hb1 hg hxl h hws
  go_enter Tryd.func30, Tryd.ntmps30
  go_wp2_with fail
  clear hr
  go_loopw [4] (fun i wr => ∃ (k : Nat) (ys : List (Ent × Value)), k ≤ xs.length ∧ ys.map (·.1) = xs.take k ∧ i = .int .i64 k ∧ wr.ownsRow w.heap.size 99 5 (.slice (some ⟨w.heap.size, 0, none⟩) xs.length xs.length) xs.length (ys.flatMap cellsE ++ zs.drop (k * 5)) ∧ (∀ y ∈ ys, wr.ownsRow (w.heap.size + 1) 9 1 y.2 y.1.words.length (strs y.1.words)) ∧ Below w.heap.size w wr) (fun i _ => xs.length - (intOf i).toNat)
  case atStart => exact ⟨0, [], Nat.zero_le _, rfl, rfl, by simpa using Hown.out, by simp, Hb1.out⟩
  case round =>
    obtain ⟨k, ys, hk, hys, rfl, hown, hyo, hbl⟩ := hrel
    have Hyo := Lib.hid hyo; clear hyo
    have Hys := Lib.hid hys
    have hyl : ys.length = k := by
      have := congrArg List.length hys
      rw [List.length_map, List.length_take] at this
      omega
    clear hys
    by_cases hlt : k < xs.length
    · obtain ⟨b1, o1, A1, c1, hA, hE⟩ := (H.out.below (hbl.mono hB)).at k hlt
      subst hA
      have hlt' : (k : Int) < (xs.length : Int) := by omega
      have hwl := Hws.out xs[k] (List.getElem_mem hlt)
      have HX := Lib.hid (show xs.take (k + 1) = xs.take k ++ [xs[k]] from List.take_succ_eq_append_getElem hlt)
      generalize xs[k] = x at *
      obtain ⟨num, name, maker, year, words⟩ := x
      obtain ⟨hbB, e0, e1, e2, e3, e4, ew⟩ := hE
      (try dsimp only at e0 e1 e2 e3 e4 ew hwl)
      have HT := Lib.hid (toEntry_any B ⟨num, name, maker, year, words⟩ A1 c1 wr ew (Nat.le_trans hB hbl.size) hwl)
      have hzb : b1 < wr.heap.size := World.block_lt_of_cell? wr _ e0
      have Hown := Lib.hid hown; clear hown ew
      have hgz := (Hown.out.lt w.heap.size rfl).2
      go_wp2_with fail
      refine HT.out.mono ?_; rintro e w3 ⟨A3, c3, rfl, how, hb3⟩
      (try dsimp only at how)
      have hown := own_below Hown.out hb3
      have hbl3 := hbl.trans (hb3.mono hbl.size)
      have hset : (((((ys.flatMap cellsE ++ zs.drop (k * 5)).set (k * 5) (.int .i64 num)).set (k * 5 + 1) (.string name)).set (k * 5 + 2) (.string maker)).set (k * 5 + 3) (.int .i64 year)).set (k * 5 + 4) (.slice A3 words.length c3) = (ys ++ [((⟨num, name, maker, year, words⟩ : Ent), Value.slice A3 words.length c3)]).flatMap cellsE ++ zs.drop ((k + 1) * 5) := by
        have hx2 := Hxl.out
        rw [set5 _ _ (k * 5) (by rw [flat_len cellsE 5 (fun _ => rfl), hyl]) (by rw [List.length_drop]; omega), List.flatMap_append, List.drop_drop, show k * 5 + 5 = (k + 1) * 5 by omega]
        rfl
      have Hset := Lib.hid hset; clear hset
      obtain ⟨u0, hu0⟩ : ∃ u, (ys.flatMap cellsE ++ zs.drop (k * 5))[k * 5 + 0]? = some u := ⟨_, List.getElem?_eq_getElem (by have := hown.1; omega)⟩
      have hc0 : w3.cell? ⟨w.heap.size, k * 5, none⟩ = some u0 := (hown.cellAt (k * 5 + 0) (by omega)).trans hu0
      have hf0 : w3.frozen? ⟨w.heap.size, k * 5, none⟩ = false := hown.frozenAt (k * 5 + 0)
      obtain ⟨u1, hu1⟩ : ∃ u, (ys.flatMap cellsE ++ zs.drop (k * 5))[k * 5 + 1]? = some u := ⟨_, List.getElem?_eq_getElem (by have := hown.1; omega)⟩
      have hc1 : w3.cell? ⟨w.heap.size, k * 5 + 1, none⟩ = some u1 := (hown.cellAt (k * 5 + 1) (by omega)).trans hu1
      have hf1 : w3.frozen? ⟨w.heap.size, k * 5 + 1, none⟩ = false := hown.frozenAt (k * 5 + 1)
      obtain ⟨u2, hu2⟩ : ∃ u, (ys.flatMap cellsE ++ zs.drop (k * 5))[k * 5 + 2]? = some u := ⟨_, List.getElem?_eq_getElem (by have := hown.1; omega)⟩
      have hc2 : w3.cell? ⟨w.heap.size, k * 5 + 2, none⟩ = some u2 := (hown.cellAt (k * 5 + 2) (by omega)).trans hu2
      have hf2 : w3.frozen? ⟨w.heap.size, k * 5 + 2, none⟩ = false := hown.frozenAt (k * 5 + 2)
      obtain ⟨u3, hu3⟩ : ∃ u, (ys.flatMap cellsE ++ zs.drop (k * 5))[k * 5 + 3]? = some u := ⟨_, List.getElem?_eq_getElem (by have := hown.1; omega)⟩
      have hc3 : w3.cell? ⟨w.heap.size, k * 5 + 3, none⟩ = some u3 := (hown.cellAt (k * 5 + 3) (by omega)).trans hu3
      have hf3 : w3.frozen? ⟨w.heap.size, k * 5 + 3, none⟩ = false := hown.frozenAt (k * 5 + 3)
      obtain ⟨u4, hu4⟩ : ∃ u, (ys.flatMap cellsE ++ zs.drop (k * 5))[k * 5 + 4]? = some u := ⟨_, List.getElem?_eq_getElem (by have := hown.1; omega)⟩
      have hc4 : w3.cell? ⟨w.heap.size, k * 5 + 4, none⟩ = some u4 := (hown.cellAt (k * 5 + 4) (by omega)).trans hu4
      have hf4 : w3.frozen? ⟨w.heap.size, k * 5 + 4, none⟩ = false := hown.frozenAt (k * 5 + 4)
      obtain ⟨ho0, _⟩ := hown.stored (k * 5) (.int .i64 num)
      obtain ⟨ho1, _⟩ := ho0.stored (k * 5 + 1) (.string name)
      obtain ⟨ho2, _⟩ := ho1.stored (k * 5 + 2) (.string maker)
      obtain ⟨ho3, _⟩ := ho2.stored (k * 5 + 3) (.int .i64 year)
      obtain ⟨ho4, _⟩ := ho3.stored (k * 5 + 4) (.slice A3 words.length c3)
      rw [Hset.out] at ho4
      have Ho4 := Lib.hid ho4
      have Hb4 := Lib.hid (((((hbl3.setCell (p := ⟨w.heap.size, k * 5, none⟩) (Nat.le_refl _) (.int .i64 num)).setCell (p := ⟨w.heap.size, k * 5 + 1, none⟩) (Nat.le_refl _) (.string name)).setCell (p := ⟨w.heap.size, k * 5 + 2, none⟩) (Nat.le_refl _) (.string maker)).setCell (p := ⟨w.heap.size, k * 5 + 3, none⟩) (Nat.le_refl _) (.int .i64 year)).setCell (p := ⟨w.heap.size, k * 5 + 4, none⟩) (Nat.le_refl _) (.slice A3 words.length c3))
      have hnew : Hid (∀ y ∈ ys ++ [((⟨num, name, maker, year, words⟩ : Ent), Value.slice A3 words.length c3)], (((((w3.setCell ⟨w.heap.size, k * 5, none⟩ (.int .i64 num)).setCell ⟨w.heap.size, k * 5 + 1, none⟩ (.string name)).setCell ⟨w.heap.size, k * 5 + 2, none⟩ (.string maker)).setCell ⟨w.heap.size, k * 5 + 3, none⟩ (.int .i64 year)).setCell ⟨w.heap.size, k * 5 + 4, none⟩ (.slice A3 words.length c3)).ownsRow (w.heap.size + 1) 9 1 y.2 y.1.words.length (strs y.1.words)) := Lib.hid fun y hy => by
        rcases List.mem_append.1 hy with hy | hy
        · exact (ownsRow_setCell_below (ownsRow_setCell_below (ownsRow_setCell_below (ownsRow_setCell_below (ownsRow_setCell_below (own_below (Hyo.out y hy) hb3) (a := ⟨w.heap.size, k * 5, none⟩) (Nat.lt_succ_self _) (.int .i64 num)) (a := ⟨w.heap.size, k * 5 + 1, none⟩) (Nat.lt_succ_self _) (.string name)) (a := ⟨w.heap.size, k * 5 + 2, none⟩) (Nat.lt_succ_self _) (.string maker)) (a := ⟨w.heap.size, k * 5 + 3, none⟩) (Nat.lt_succ_self _) (.int .i64 year)) (a := ⟨w.heap.size, k * 5 + 4, none⟩) (Nat.lt_succ_self _) (.slice A3 words.length c3))
        · obtain rfl := List.mem_singleton.1 hy
          exact (ownsRow_setCell_below (ownsRow_setCell_below (ownsRow_setCell_below (ownsRow_setCell_below (ownsRow_setCell_below (ownsRow_le how (base' := w.heap.size + 1) hgz) (a := ⟨w.heap.size, k * 5, none⟩) (Nat.lt_succ_self _) (.int .i64 num)) (a := ⟨w.heap.size, k * 5 + 1, none⟩) (Nat.lt_succ_self _) (.string name)) (a := ⟨w.heap.size, k * 5 + 2, none⟩) (Nat.lt_succ_self _) (.string maker)) (a := ⟨w.heap.size, k * 5 + 3, none⟩) (Nat.lt_succ_self _) (.int .i64 year)) (a := ⟨w.heap.size, k * 5 + 4, none⟩) (Nat.lt_succ_self _) (.slice A3 words.length c3))
      clear hu0 hu1 hu2 hu3 hu4 hown ho0 ho1 ho2 ho3 ho4 how hb3 e0 e1 e2 e3 e4 hbl hbl3
      go_wp2_with fail
      go_roundw
      case rel => exact ⟨k + 1, _, by omega, by rw [List.map_append, Hys.out, HX.out]; rfl, by go_num, Ho4.out, hnew.out, Hb4.out⟩
      case measure => simp [intOf]; omega
    · have hd : (ys.flatMap cellsE ++ zs.drop (k * 5)) = ys.flatMap cellsE := by
        rw [List.drop_of_length_le (by have := Hxl.out; omega), List.append_nil]
      rw [hd] at hown
      have hfin := Lib.hid (show ys.map (·.1) = xs by rw [Hys.out, List.take_of_length_le (by omega)])
      clear hd
      have hlt' : (xs.length : Int) ≤ (k : Int) := by omega
      have Hown := Lib.hid hown; clear hown
      go_wp2_with fail
      go_ret
      exact ⟨ys, rfl, hfin.out, Hown.out, Hyo.out, hbl⟩

theorem RetE.rd {w w' : World} {xs : List Ent} {e : Ending} (h : RetE w xs e w') : ∃ A c, e = .returned (.slice A xs.length c) ∧ RdE w' w'.heap.size (.slice A xs.length c) xs ∧ Below w.heap.size w w' := by
  obtain ⟨ys, rfl, h1, h2, h3, h4⟩ := h
  exact ⟨_, _, rfl, ⟨ys, h1, Rd.of_own h2, fun y hy => Rd.of_own (h3 y hy)⟩, h4⟩
theorem toEntryS_c (B : Nat) (v : Value) (xs : List Ent) (w : World) (h : RdE w B v xs) (hB : B ≤ w.heap.size) (hl : xs.length ≤ 1048576) (hws : ∀ x ∈ xs, x.words.length ≤ 1048576) :
    Calls Tryd.prog 30 #[v] w fun e w' => ∃ A c, e = .returned (.slice A xs.length c) ∧ RdE w' w'.heap.size (.slice A xs.length c) xs ∧ Below w.heap.size w w' :=
  (toEntryS_any B v xs w h hB hl hws).mono fun _ _ h => h.rd
end Go.Proofs.YtmheijnckmlbnaaDoor
